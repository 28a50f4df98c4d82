/- Counting records; reading peers and routes -/
import Derived.Test.YtdeeokkkcfkbjaaGreatAttO
import Derived.Test.YtdeeokkkcfkbjaaGreatAttC
import Derived.Test.YtdeeokkkcfkbjaaGreatMrtX
import Derived.Test.YtdeeokkkcfkbjaaGreatAttQ
import Derived.Test.YtdeeokkkcfkbjaaGreatUpd
namespace Go.Proofs.YtdeeokkkcfkbjaaGreat
set_option linter.unusedVariables false
set_option linter.unusedSimpArgs false
open Go.RowKit
attribute [local irreducible] HC HX HO Tri eP adr

theorem nS_t (b : Nat) (A : Option Addr) (c : Nat) (l : List UInt8) (q : Nat) (hq : 1 ≤ q ∧ q ≤ 4) (h : l.length < q) (hc : l.length ≤ c) :
    Tri Tryz.prog 49 [pt b, .int .i64 q] [] (rdP b A c false l) (fun x : OA => l.length ≤ x.2) (fun _ => .int .i64 0) (fun x => rdP b x.1 x.2 true l) := numS_t b A c l q hq h hc
theorem nL_t (b : Nat) (A : Option Addr) (c : Nat) (l : List UInt8) (q : Nat) (hq : 1 ≤ q ∧ q ≤ 4) (h : q ≤ l.length) (hb : l.length ≤ 1000000000) (hc : l.length ≤ c) :
    Tri Tryz.prog 49 [pt b, .int .i64 q] [] (rdP b A c false l) (fun x : OA => (l.drop q).length ≤ x.2) (fun _ => .int .i64 (ge (l.take q))) (fun x => rdP b x.1 x.2 false (l.drop q)) := by
  have := nnum_t b A c false l q (by omega) hb hc
  have hg : (ngetR (l.take q)).1 = (ge (l.take q) : Int) := by
    have : (l.take q).length = q := by simp; omega
    unfold ngetR
    rw [if_neg (by omega)]
  rw [rdB_long h, hg] at this
  exact this
theorem nB_t (b : Nat) (A : Option Addr) (c : Nat) (l : List UInt8) (q : Nat) (hq : 1 ≤ q ∧ q ≤ 4) (hb : l.length ≤ 1000000000) (hc : l.length ≤ c) :
    Tri Tryz.prog 49 [pt b, .int .i64 q] [] (rdP b A c true l) (fun x : OA => l.length ≤ x.2) (fun _ => .int .i64 0) (fun x => rdP b x.1 x.2 true l) := by
  have := nnum_t b A c true l q (by omega) hb hc
  rw [rdB_bad] at this
  exact this
theorem bB_t (b : Nat) (A : Option Addr) (c : Nat) (l : List UInt8) (n : Int) (hb : l.length ≤ 1000000000) (hc : l.length ≤ c) :
    Tri Tryz.prog 48 [pt b, .int .i64 n] [] (rdP b A c true l) (fun x : OA × OA => 0 ≤ x.1.2 ∧ l.length ≤ x.2.2) (fun x => .slice x.1.1 0 x.1.2) (fun x => ownB x.1 [] :: rdP b x.2.1 x.2.2 true l) := by
  have := nbytes_t b A c true l n hb hc
  rw [rdB_bad] at this
  exact this
theorem bS_t (b : Nat) (A : Option Addr) (c : Nat) (l : List UInt8) (n : Nat) (h : l.length < n) (hb : l.length ≤ 1000000000) (hc : l.length ≤ c) :
    Tri Tryz.prog 48 [pt b, .int .i64 n] [] (rdP b A c false l) (fun x : OA × OA => 0 ≤ x.1.2 ∧ l.length ≤ x.2.2) (fun x => .slice x.1.1 0 x.1.2) (fun x => ownB x.1 [] :: rdP b x.2.1 x.2.2 true l) := by
  have := nbytes_t b A c false l n hb hc
  rw [rdB_short h] at this
  exact this
theorem bL_t (b : Nat) (A : Option Addr) (c : Nat) (l : List UInt8) (n : Nat) (h : n ≤ l.length) (hb : l.length ≤ 1000000000) (hc : l.length ≤ c) :
    Tri Tryz.prog 48 [pt b, .int .i64 n] [] (rdP b A c false l) (fun x : OA × OA => (l.take n).length ≤ x.1.2 ∧ (l.drop n).length ≤ x.2.2) (fun x => .slice x.1.1 (l.take n).length x.1.2) (fun x => ownB x.1 (l.take n) :: rdP b x.2.1 x.2.2 false (l.drop n)) := by
  have := nbytes_t b A c false l n hb hc
  rw [rdB_long h] at this
  exact this
/-- how long the first record is behind its head -/
def lenG (l : List UInt8) : Nat := ge ((l.drop 8).take 4)
def cntG : Nat → Nat → List UInt8 → Option Nat
  | 0, _, _ => none
  | f + 1, n, l => match l with
    | [] => some n
    | x :: r => if 12 ≤ (x :: r).length ∧ lenG (x :: r) ≤ (x :: r).length - 12 then cntG f (n + 1) ((x :: r).drop (12 + lenG (x :: r))) else none
theorem cntG_fuel : ∀ (f g n : Nat) (l : List UInt8), l.length < f → l.length < g → cntG f n l = cntG g n l := by
  intro f
  induction f with
  | zero => intro g n l h; omega
  | succ f ih =>
    intro g n l h1 h2
    cases g with
    | zero => omega
    | succ g =>
      cases l with
      | nil => rfl
      | cons x r =>
        simp only [cntG]
        split
        · exact ih g _ _ (by simp only [List.length_drop]; omega) (by simp only [List.length_drop]; omega)
        · rfl
def cntR (n : Nat) (l : List UInt8) : Option Nat := cntG (l.length + 1) n l
theorem cntR_nil (n : Nat) : cntR n [] = some n := rfl
theorem cntR_cons (n : Nat) (l : List UInt8) (hl : l ≠ []) : cntR n l = if 12 ≤ l.length ∧ lenG l ≤ l.length - 12 then cntR (n + 1) (l.drop (12 + lenG l)) else none := by
  cases l with
  | nil => exact absurd rfl hl
  | cons x r =>
    unfold cntR
    conv => lhs; simp only [cntG]
    split
    · exact cntG_fuel _ _ _ _ (by simp only [List.length_drop, List.length_cons]; omega) (by omega)
    · rfl
def cntV (r : Option Nat) : Value := match r with
  | some n => .tuple #[.int .i64 (n : Nat), .bool true]
  | none => .tuple #[.int .i64 0, .bool false]
structure RcI where
  A : Option Addr
  c : Nat
  bad : Bool
  l : List UInt8
  n : Nat
set_option maxHeartbeats 16000000 in
set_option maxRecDepth 100000 in
theorem mrecs_t (A : Option Addr) (c : Nat) (l : List UInt8) (hb : l.length ≤ 1000000000) :
    Tri Tryz.prog 17 [.slice A l.length c] [arr bE 1 A l] [] (fun _ : Unit => True) (fun _ => cntV (cntR 0 l)) (fun _ => []) := by
  have hfrom := nfrom_t A l.length c l rfl hb
  obtain ⟨res, hres⟩ : ∃ r, cntR 0 l = r := ⟨_, rfl⟩
  rw [hres]
  refine Tri_of (N := Tryz.f17.ntmps) (c := bodyOf Tryz.f17) Tryz.func17 rfl rfl rfl rfl (fun w0 S0 => ?_)
  repeat' (first | refine SW ?_ | refine SD ?_ | (refine HO_k 12 rfl ?_; refine HO_call rfl rfl rfl rfl (hfrom) rfl (srcsA) rfl rfl soA ?_; intro ⟨rb, ⟨rA, rc⟩⟩ hr; dsimp only [rdP, pt, List.cons_append, List.nil_append]) | exact HO_seg rfl rfl | refine S1 ?_ | (refine S2 ?_; intro _) | (refine S3 ?_; intro _ _) | (refine S4 ?_; intro _ _ _) | (refine HO_g 2 rfl ?_; (first | apply HO_and rfl rfl rfl rfl rfl rfl rfl rfl rfl | apply HO_or rfl rfl rfl rfl rfl rfl rfl rfl rfl)) | refine S5 ?_ | (intro hb; try replace hb := simB hb; try exact kill hb))
  refine HC_loop (α := RcI) (fun x => x.l.length ≤ 1000000000 ∧ x.l.length ≤ x.c ∧ (x.n ≤ l.length ∧ (x.bad = false → x.n + x.l.length ≤ l.length)) ∧ (x.bad = false ∧ cntR x.n x.l = res ∨ x.bad = true ∧ res = none)) (fun x => [(5, .int .i64 x.n), (4, pt rb)])
    (fun x => rdP rb x.A x.c x.bad x.l) (fun x => if x.bad = true then 0 else x.l.length + 1) rfl ⟨rA, rc, false, l, 0⟩ ⟨hb, hr, ⟨by simp, fun _ => by simp⟩, .inl ⟨rfl, hres⟩⟩ ⟨rfl, rfl, trivial⟩ rfl ?_
  clear hres hr
  intro ⟨A, c, bad, k, n⟩ ⟨hk, hc, hn, hinv⟩
  dsimp only [rdP, pt] at hk hc hn hinv ⊢
  rcases hinv with ⟨rfl, hinv⟩ | ⟨rfl, hinv⟩
  rotate_left
  · subst hinv
    repeat' (first | refine SW ?_ | refine SD ?_ | (refine HO_k 12 rfl ?_; refine HO_callq rfl rfl rfl rfl (nleftT_t _ _ _ _) (fun _ _ => rfl) (srcsA) rfl rfl sqA ?_) | (refine HO_k 12 rfl ?_; refine HO_callq rfl rfl rfl rfl (nbad_t _ _ _ _ _) (fun _ _ => rfl) (srcsA) rfl rfl sqA ?_) | exact HO_seg rfl rfl | refine S1 ?_ | (refine S2 ?_; intro _) | (refine S3 ?_; intro _ _) | (refine S4 ?_; intro _ _ _) | (refine HO_g 2 rfl ?_; (first | apply HO_and rfl rfl rfl rfl rfl rfl rfl rfl rfl | apply HO_or rfl rfl rfl rfl rfl rfl rfl rfl rfl)) | refine S5 ?_ | (intro hb; try replace hb := simB hb; try exact kill hb))
    ((first | apply HX_ret | apply HX_retn); (repeat (first | exact Res_nil | apply Res_tmp rfl | apply Res_ce rfl rfl rfl)); unfold RetQ; refine ⟨(), trivial, ?_, Keeps.nil⟩)
    rfl
  have hn2 := hn.2 rfl
  have hn0 := hn.1
  by_cases hk0 : k = []
  · subst hk0
    rw [cntR_nil] at hinv
    subst hinv
    repeat' (first | refine SW ?_ | refine SD ?_ | (refine HO_k 12 rfl ?_; refine HO_callq rfl rfl rfl rfl (nleftF_t _ _ _ _) (fun _ _ => rfl) (srcsA) rfl rfl sqA ?_) | (refine HO_k 12 rfl ?_; refine HO_callq rfl rfl rfl rfl (nbad_t _ _ _ _ _) (fun _ _ => rfl) (srcsA) rfl rfl sqA ?_) | exact HO_seg rfl rfl | refine S1 ?_ | (refine S2 ?_; intro _) | (refine S3 ?_; intro _ _) | (refine S4 ?_; intro _ _ _) | (refine HO_g 2 rfl ?_; (first | apply HO_and rfl rfl rfl rfl rfl rfl rfl rfl rfl | apply HO_or rfl rfl rfl rfl rfl rfl rfl rfl rfl)) | refine S5 ?_ | (intro hb; try replace hb := simB hb; try exact kill hb))
    ((first | apply HX_ret | apply HX_retn); (repeat (first | exact Res_nil | apply Res_tmp rfl | apply Res_ce rfl rfl rfl)); unfold RetQ; refine ⟨(), trivial, ?_, Keeps.nil⟩)
    rfl
  have hpos : 0 < k.length := List.length_pos_iff.2 hk0
  rw [cntR_cons _ _ hk0] at hinv
  have hn1 : ((n : Nat) : Int) + 1 = ((n + 1 : Nat) : Int) := by omega
  by_cases c1 : k.length < 8
  · rw [if_neg (by omega)] at hinv
    have h1 := bS_t rb A c k 8 c1 hk hc
    have h2 := fun A c hc => nB_t rb A c k 4 (by decide) hk hc
    have h3 := fun A c hc => bB_t rb A c k 0 hk hc
    repeat' (first | refine SW ?_ | refine SD ?_ | (with_reducible refine HO_rw (congrArg (Value.int .i64) hn1) ?_) | (refine HO_k 12 rfl ?_; refine HO_callq rfl rfl rfl rfl (nleftF_t _ _ _ _) (fun _ _ => rfl) (srcsA) rfl rfl sqA ?_) | (refine HO_k 12 rfl ?_; refine HO_call rfl rfl rfl rfl (h1) rfl (trivial) rfl rfl soA ?_; intro ⟨⟨uA, uc⟩, ⟨vA, vc⟩⟩ hu; dsimp only [rdP, pt, List.cons_append, List.nil_append]) | (refine HO_k 12 rfl ?_; refine HO_mv 2 rfl rfl ?_; refine HO_mv 2 rfl rfl ?_; refine HO_call rfl rfl rfl rfl (h2 vA vc hu.2) rfl (trivial) rfl rfl soA ?_; intro ⟨yA, yc⟩ hy; dsimp only [rdP, pt, List.cons_append, List.nil_append]) | (refine HO_k 12 rfl ?_; refine HO_call rfl rfl rfl rfl (h3 yA yc hy) rfl (trivial) rfl rfl soA ?_; intro ⟨⟨sA, sc⟩, ⟨tA, tc⟩⟩ ht; dsimp only [rdP, pt, List.cons_append, List.nil_append]) | exact HO_seg rfl rfl | refine S1 ?_ | (refine S2 ?_; intro _) | (refine S3 ?_; intro _ _) | (refine S4 ?_; intro _ _ _) | (refine HO_g 2 rfl ?_; (first | apply HO_and rfl rfl rfl rfl rfl rfl rfl rfl rfl | apply HO_or rfl rfl rfl rfl rfl rfl rfl rfl rfl)) | refine S5 ?_ | (intro hb; try replace hb := simB hb; try exact kill hb))
    refine HX_keeps (rw' := rdP rb tA tc true k) permA ?_
    exact HX_at ⟨tA, tc, true, k, n + 1⟩ ⟨⟨hk, ht.2, ⟨by simp only; omega, fun h => (by cases h)⟩, .inr ⟨rfl, hinv.symm⟩⟩, by simp⟩ ⟨rfl, rfl, trivial⟩ rfl
  have h1 := bL_t rb A c k 8 (by omega) hk hc
  have hd8 : (k.drop 8).length = k.length - 8 := by rw [List.length_drop]
  by_cases c2 : (k.drop 8).length < 4
  · rw [if_neg (by omega)] at hinv
    have h2 := fun A c hc => nS_t rb A c (k.drop 8) 4 (by decide) c2 hc
    have h3 := fun A c hc => bB_t rb A c (k.drop 8) 0 (by omega) hc
    repeat' (first | refine SW ?_ | refine SD ?_ | (with_reducible refine HO_rw (congrArg (Value.int .i64) hn1) ?_) | (refine HO_k 12 rfl ?_; refine HO_callq rfl rfl rfl rfl (nleftF_t _ _ _ _) (fun _ _ => rfl) (srcsA) rfl rfl sqA ?_) | (refine HO_k 12 rfl ?_; refine HO_call rfl rfl rfl rfl (h1) rfl (trivial) rfl rfl soA ?_; intro ⟨⟨uA, uc⟩, ⟨vA, vc⟩⟩ hu; dsimp only [rdP, pt, List.cons_append, List.nil_append]) | (refine HO_k 12 rfl ?_; refine HO_mv 2 rfl rfl ?_; refine HO_mv 2 rfl rfl ?_; refine HO_call rfl rfl rfl rfl (h2 vA vc hu.2) rfl (trivial) rfl rfl soA ?_; intro ⟨yA, yc⟩ hy; dsimp only [rdP, pt, List.cons_append, List.nil_append]) | (refine HO_k 12 rfl ?_; refine HO_call rfl rfl rfl rfl (h3 yA yc hy) rfl (trivial) rfl rfl soA ?_; intro ⟨⟨sA, sc⟩, ⟨tA, tc⟩⟩ ht; dsimp only [rdP, pt, List.cons_append, List.nil_append]) | exact HO_seg rfl rfl | refine S1 ?_ | (refine S2 ?_; intro _) | (refine S3 ?_; intro _ _) | (refine S4 ?_; intro _ _ _) | (refine HO_g 2 rfl ?_; (first | apply HO_and rfl rfl rfl rfl rfl rfl rfl rfl rfl | apply HO_or rfl rfl rfl rfl rfl rfl rfl rfl rfl)) | refine S5 ?_ | (intro hb; try replace hb := simB hb; try exact kill hb))
    refine HX_keeps (rw' := rdP rb tA tc true (k.drop 8)) permA ?_
    exact HX_at ⟨tA, tc, true, k.drop 8, n + 1⟩ ⟨⟨by simp only; omega, ht.2, ⟨by simp only; omega, fun h => (by cases h)⟩, .inr ⟨rfl, hinv.symm⟩⟩, by simp⟩ ⟨rfl, rfl, trivial⟩ rfl
  have h2 := fun A c hc => nL_t rb A c (k.drop 8) 4 (by decide) (by omega) (by omega) hc
  have hd12 : (k.drop 8).drop 4 = k.drop 12 := by rw [List.drop_drop]
  have hl12 : (k.drop 12).length = k.length - 12 := by rw [List.length_drop]
  have hgg : ge ((k.drop 8).take 4) = lenG k := rfl
  rw [hd12, hgg] at h2
  by_cases c3 : (k.drop 12).length < lenG k
  · rw [if_neg (by omega)] at hinv
    have h3 := fun A c hc => bS_t rb A c (k.drop 12) (lenG k) c3 (by omega) hc
    repeat' (first | refine SW ?_ | refine SD ?_ | (with_reducible refine HO_rw (congrArg (Value.int .i64) hn1) ?_) | (refine HO_k 12 rfl ?_; refine HO_callq rfl rfl rfl rfl (nleftF_t _ _ _ _) (fun _ _ => rfl) (srcsA) rfl rfl sqA ?_) | (refine HO_k 12 rfl ?_; refine HO_call rfl rfl rfl rfl (h1) rfl (trivial) rfl rfl soA ?_; intro ⟨⟨uA, uc⟩, ⟨vA, vc⟩⟩ hu; dsimp only [rdP, pt, List.cons_append, List.nil_append]) | (refine HO_k 12 rfl ?_; refine HO_mv 2 rfl rfl ?_; refine HO_mv 2 rfl rfl ?_; refine HO_call rfl rfl rfl rfl (h2 vA vc hu.2) rfl (trivial) rfl rfl soA ?_; intro ⟨yA, yc⟩ hy; dsimp only [rdP, pt, List.cons_append, List.nil_append]) | (refine HO_k 12 rfl ?_; refine HO_call rfl rfl rfl rfl (h3 yA yc hy) rfl (trivial) rfl rfl soA ?_; intro ⟨⟨sA, sc⟩, ⟨tA, tc⟩⟩ ht; dsimp only [rdP, pt, List.cons_append, List.nil_append]) | exact HO_seg rfl rfl | refine S1 ?_ | (refine S2 ?_; intro _) | (refine S3 ?_; intro _ _) | (refine S4 ?_; intro _ _ _) | (refine HO_g 2 rfl ?_; (first | apply HO_and rfl rfl rfl rfl rfl rfl rfl rfl rfl | apply HO_or rfl rfl rfl rfl rfl rfl rfl rfl rfl)) | refine S5 ?_ | (intro hb; try replace hb := simB hb; try exact kill hb))
    refine HX_keeps (rw' := rdP rb tA tc true (k.drop 12)) permA ?_
    exact HX_at ⟨tA, tc, true, k.drop 12, n + 1⟩ ⟨⟨by simp only; omega, ht.2, ⟨by simp only; omega, fun h => (by cases h)⟩, .inr ⟨rfl, hinv.symm⟩⟩, by simp⟩ ⟨rfl, rfl, trivial⟩ rfl
  · rw [if_pos (by omega)] at hinv
    have h3 := fun A c hc => bL_t rb A c (k.drop 12) (lenG k) (by omega) (by omega) hc
    have hd : (k.drop 12).drop (lenG k) = k.drop (12 + lenG k) := by rw [List.drop_drop]
    rw [hd] at h3
    have hdl : (k.drop (12 + lenG k)).length = k.length - (12 + lenG k) := by rw [List.length_drop]
    repeat' (first | refine SW ?_ | refine SD ?_ | (with_reducible refine HO_rw (congrArg (Value.int .i64) hn1) ?_) | (refine HO_k 12 rfl ?_; refine HO_callq rfl rfl rfl rfl (nleftF_t _ _ _ _) (fun _ _ => rfl) (srcsA) rfl rfl sqA ?_) | (refine HO_k 12 rfl ?_; refine HO_call rfl rfl rfl rfl (h1) rfl (trivial) rfl rfl soA ?_; intro ⟨⟨uA, uc⟩, ⟨vA, vc⟩⟩ hu; dsimp only [rdP, pt, List.cons_append, List.nil_append]) | (refine HO_k 12 rfl ?_; refine HO_mv 2 rfl rfl ?_; refine HO_mv 2 rfl rfl ?_; refine HO_call rfl rfl rfl rfl (h2 vA vc hu.2) rfl (trivial) rfl rfl soA ?_; intro ⟨yA, yc⟩ hy; dsimp only [rdP, pt, List.cons_append, List.nil_append]) | (refine HO_k 12 rfl ?_; refine HO_call rfl rfl rfl rfl (h3 yA yc hy) rfl (trivial) rfl rfl soA ?_; intro ⟨⟨sA, sc⟩, ⟨tA, tc⟩⟩ ht; dsimp only [rdP, pt, List.cons_append, List.nil_append]) | exact HO_seg rfl rfl | refine S1 ?_ | (refine S2 ?_; intro _) | (refine S3 ?_; intro _ _) | (refine S4 ?_; intro _ _ _) | (refine HO_g 2 rfl ?_; (first | apply HO_and rfl rfl rfl rfl rfl rfl rfl rfl rfl | apply HO_or rfl rfl rfl rfl rfl rfl rfl rfl rfl)) | refine S5 ?_ | (intro hb; try replace hb := simB hb; try exact kill hb))
    refine HX_keeps (rw' := rdP rb tA tc false (k.drop (12 + lenG k))) permA ?_
    exact HX_at ⟨tA, tc, false, k.drop (12 + lenG k), n + 1⟩ ⟨⟨by simp only; omega, ht.2, ⟨by simp only; omega, fun _ => (by simp only; omega)⟩, .inl ⟨rfl, hinv⟩⟩, by simp; omega⟩ ⟨rfl, rfl, trivial⟩ rfl
structure RrI where
  A : Option Addr
  c : Nat
  l : List UInt8
  n : Nat
/-! ## a reader's steps -/
@[reducible] def RS := Bool × List UInt8
def rok (w : Nat) (s : RS) : Bool := !s.1 && decide (w ≤ s.2.length)
def rS (w : Nat) (s : RS) : RS := if rok w s = true then (false, s.2.drop w) else (true, s.2)
def rV (w : Nat) (s : RS) : Nat := if rok w s = true then ge (s.2.take w) else 0
def rB (w : Nat) (s : RS) : List UInt8 := if rok w s = true then s.2.take w else []
theorem rS_len (w : Nat) (s : RS) : (rS w s).2.length ≤ s.2.length := by
  unfold rS
  split
  · rw [List.length_drop]; omega
  · exact Nat.le_refl _
theorem rV_lt (w : Nat) (s : RS) : rV w s < 256 ^ w := by
  unfold rV
  split
  · have := ge_lt (s.2.take w)
    exact Nat.lt_of_lt_of_le this (Nat.pow_le_pow_right (by decide) (by rw [List.length_take]; omega))
  · exact Nat.pow_pos (by decide)
theorem rB_len (w : Nat) (s : RS) : (rB w s).length ≤ w ∧ (rB w s).length ≤ s.2.length := by
  unfold rB
  split
  · rw [List.length_take]; omega
  · simp
theorem numG_t (b : Nat) (A : Option Addr) (c : Nat) (s : RS) (w : Nat) (hw : 1 ≤ w ∧ w ≤ 4) (hb : s.2.length ≤ 1000000000) (hc : s.2.length ≤ c) :
    Tri Tryz.prog 49 [pt b, .int .i64 w] [] (rdP b A c s.1 s.2) (fun x : OA => (rS w s).2.length ≤ x.2) (fun _ => .int .i64 (rV w s)) (fun x => rdP b x.1 x.2 (rS w s).1 (rS w s).2) := by
  obtain ⟨bad, l⟩ := s
  unfold rS rV rok
  cases bad
  · rcases Nat.lt_or_ge l.length w with h | h
    · have hd : decide (w ≤ l.length) = false := decide_eq_false (by omega)
      simp only [hd, Bool.and_false, Bool.false_eq_true, if_false]
      exact nS_t b A c l w hw h hc
    · have hd : decide (w ≤ l.length) = true := decide_eq_true h
      simp only [hd, Bool.and_true, Bool.not_false, if_true]
      exact nL_t b A c l w hw h hb hc
  · simp only [Bool.not_true, Bool.false_and, Bool.false_eq_true, if_false]
    exact nB_t b A c l w hw hb hc
theorem bytesG_t (b : Nat) (A : Option Addr) (c : Nat) (s : RS) (n : Nat) (hb : s.2.length ≤ 1000000000) (hc : s.2.length ≤ c) :
    Tri Tryz.prog 48 [pt b, .int .i64 n] [] (rdP b A c s.1 s.2) (fun x : OA × OA => (rB n s).length ≤ x.1.2 ∧ (rS n s).2.length ≤ x.2.2) (fun x => .slice x.1.1 (rB n s).length x.1.2)
      (fun x => ownB x.1 (rB n s) :: rdP b x.2.1 x.2.2 (rS n s).1 (rS n s).2) := by
  obtain ⟨bad, l⟩ := s
  unfold rS rB rok
  cases bad
  · rcases Nat.lt_or_ge l.length n with h | h
    · have hd : decide (n ≤ l.length) = false := decide_eq_false (by omega)
      simp only [hd, Bool.and_false, Bool.false_eq_true, if_false]
      exact bS_t b A c l n h hb hc
    · have hd : decide (n ≤ l.length) = true := decide_eq_true h
      simp only [hd, Bool.and_true, Bool.not_false, if_true]
      exact bL_t b A c l n h hb hc
  · simp only [Bool.not_true, Bool.false_and, Bool.false_eq_true, if_false]
    exact bB_t b A c l n hb hc

/-! ## what is read -/
@[reducible] def TRd : Nat := 80
structure RdS where
  t : Int
  id : Nat
  pA : Option Addr
  pc : Nat
  peers : List PeS
  rA : Option Addr
  rc : Nat
  routes : List RtS
  n : Int
@[reducible] def ownP (x : OA) (l : List PeS) : SL := own idE 53 3 x.1 l.length x.2 (l.map PeS.e)
@[reducible] def ownR (x : OA) (l : List RtS) : SL := own idE 51 10 x.1 l.length x.2 (l.map RtS.e)
@[reducible] def xP (b : Nat) (x : RdS) : List SL := [cel b TRd [.int .i64 x.t, .int .u32 x.id, .slice x.pA x.peers.length x.pc, .slice x.rA x.routes.length x.rc, .int .i64 x.n], ownP (x.pA, x.pc) x.peers, ownR (x.rA, x.rc) x.routes, inn (rtPs x.routes)]
/-- peers, so many -/
def peL : Nat → List PeS → RS → Option (List PeS × RS)
  | 0, acc, s => some (acc, s)
  | k + 1, acc, s => if rV 1 s = 2 then peL k (acc ++ [⟨rV 4 (rS 1 s), rV 4 (rS 4 (rS 1 s)), rV 4 (rS 4 (rS 4 (rS 1 s)))⟩]) (rS 4 (rS 4 (rS 4 (rS 1 s)))) else none
def peersM (acc : List PeS) (s : RS) : Option (Nat × List PeS × RS) :=
  if rV 2 (rS 4 s) ≠ 0 ∨ 16 < rV 2 (rS 2 (rS 4 s)) then none else
  match peL (rV 2 (rS 2 (rS 4 s))) acc (rS 2 (rS 2 (rS 4 s))) with
  | none => none
  | some (ps, s') => some (rV 4 s, ps, s')
theorem peL_len : ∀ (k : Nat) (acc : List PeS) (s : RS) (ps : List PeS) (s' : RS), peL k acc s = some (ps, s') → ps.length = acc.length + k ∧ s'.2.length ≤ s.2.length ∧ ((∀ p ∈ acc, p.id < 4294967296 ∧ p.ad < 4294967296) → ∀ p ∈ ps, p.id < 4294967296 ∧ p.ad < 4294967296) := by
  intro k
  induction k with
  | zero =>
    intro acc s ps s' h
    simp only [peL, Option.some.injEq, Prod.mk.injEq] at h
    obtain ⟨rfl, rfl⟩ := h
    exact ⟨rfl, Nat.le_refl _, fun h => h⟩
  | succ k ih =>
    intro acc s ps s' h
    simp only [peL] at h
    split at h
    · obtain ⟨h1, h2, h3⟩ := ih _ _ _ _ h
      have a1 := rS_len 1 s
      have a2 := rS_len 4 (rS 1 s)
      have a3 := rS_len 4 (rS 4 (rS 1 s))
      have a4 := rS_len 4 (rS 4 (rS 4 (rS 1 s)))
      refine ⟨by rw [h1]; simp; omega, by omega, fun hp => h3 fun p hm => ?_⟩
      rcases List.mem_append.1 hm with hm | hm
      · exact hp p hm
      · rw [List.mem_singleton.1 hm]
        exact ⟨rV_lt 4 _, rV_lt 4 _⟩
    · cases h
structure PrI where
  A : Option Addr
  c : Nat
  s : RS
  pA : Option Addr
  pc : Nat
  peers : List PeS
  j : Nat
/-- what a reading yields -/
structure RdY where
  x : RdS
  A : Option Addr
  c : Nat
  s : RS
def rdQ (b rb : Nat) (y : RdY) : List SL := rdP rb y.A y.c y.s.1 y.s.2 ++ xP b y.x
set_option maxHeartbeats 16000000 in
set_option maxRecDepth 100000 in
theorem rpeers_t (b rb : Nat) (x : RdS) (A : Option Addr) (c : Nat) (s : RS) (hb : s.2.length ≤ 1000000000) (hc : s.2.length ≤ c) (hx : x.peers.length ≤ 1000) :
    Tri Tryz.prog 67 [pt b, pt rb] [] (rdP rb A c s.1 s.2 ++ xP b x) (fun y : RdY => y.s.2.length ≤ y.c ∧ ∀ id ps s', peersM x.peers s = some (id, ps, s') → y.s = s' ∧ y.x.id = id ∧ y.x.peers = ps ∧ y.x.t = x.t ∧ y.x.rA = x.rA ∧ y.x.rc = x.rc ∧ y.x.routes = x.routes ∧ y.x.n = x.n)
      (fun _ => .bool (peersM x.peers s).isSome) (rdQ b rb) := by
  have a1 := rS_len 4 s
  have a2 := rS_len 2 (rS 4 s)
  have a3 := rS_len 2 (rS 2 (rS 4 s))
  have v1 := rV_lt 4 s
  have v2 := rV_lt 2 (rS 4 s)
  have v3 := rV_lt 2 (rS 2 (rS 4 s))
  have h1 := numG_t rb A c s 4 (by decide) hb hc
  have h2 := fun A c hc => numG_t rb A c (rS 4 s) 2 (by decide) (by omega) hc
  have h3 := fun A c hc => numG_t rb A c (rS 2 (rS 4 s)) 2 (by decide) (by omega) hc
  unfold peersM
  obtain ⟨s1, e1⟩ : ∃ q, rS 4 s = q := ⟨_, rfl⟩
  obtain ⟨i1, f1⟩ : ∃ q, rV 4 s = q := ⟨_, rfl⟩
  simp only [e1, f1] at a1 a2 a3 v1 v2 v3 h1 h2 h3 ⊢
  obtain ⟨s2, e2⟩ : ∃ q, rS 2 s1 = q := ⟨_, rfl⟩
  obtain ⟨i2, f2⟩ : ∃ q, rV 2 s1 = q := ⟨_, rfl⟩
  simp only [e2, f2] at a2 a3 v2 v3 h2 h3 ⊢
  obtain ⟨s3, e3⟩ : ∃ q, rS 2 s2 = q := ⟨_, rfl⟩
  obtain ⟨i3, f3⟩ : ∃ q, rV 2 s2 = q := ⟨_, rfl⟩
  simp only [e3, f3] at a3 v3 h3 ⊢
  by_cases hbad : i2 ≠ 0 ∨ 16 < i3
  · rw [if_pos hbad]
    by_cases hb2 : i2 = 0
    · subst hb2
      refine Tri_of (N := Tryz.f67.ntmps) (c := bodyOf Tryz.f67) Tryz.func67 rfl rfl rfl rfl (fun w0 S0 => ?_)
      dsimp only [pt, rdP, xP, List.cons_append, List.nil_append] at h1 h2 h3 ⊢
      repeat' (first | refine SW ?_ | refine SD ?_ | (refine HO_k 12 rfl ?_; refine HO_call rfl rfl rfl rfl (h1) rfl (trivial) rfl rfl soA ?_; intro ⟨x1, c1⟩ g1; dsimp only [List.cons_append, List.nil_append]) | (refine HO_k 12 rfl ?_; refine HO_call rfl rfl rfl rfl (h2 x1 c1 g1) rfl (trivial) rfl rfl soA ?_; intro ⟨x2, c2⟩ g2; dsimp only [List.cons_append, List.nil_append]) | (refine HO_k 12 rfl ?_; refine HO_call rfl rfl rfl rfl (h3 x2 c2 g2) rfl (trivial) rfl rfl soA ?_; intro ⟨x3, c3⟩ g3; dsimp only [List.cons_append, List.nil_append]) | exact HO_seg rfl rfl | refine S1 ?_ | (refine S2 ?_; intro _) | (refine S3 ?_; intro _ _) | (refine S4 ?_; intro _ _ _) | (refine HO_g 2 rfl ?_; (first | apply HO_and rfl rfl rfl rfl rfl rfl rfl rfl rfl | apply HO_or rfl rfl rfl rfl rfl rfl rfl rfl rfl)) | refine S5 ?_ | (intro hb; try replace hb := simB hb; try exact kill hb))
      ((first | apply HX_ret | apply HX_retn); (repeat (first | exact Res_nil | apply Res_tmp rfl | apply Res_ce rfl rfl rfl)); unfold RetQ; refine ⟨(⟨{ x with id := i1 }, x3, c3, s3⟩ : RdY), ⟨g3, fun id ps s' h => (by cases h)⟩, rfl, Keeps.refl⟩)
    · refine Tri_of (N := Tryz.f67.ntmps) (c := bodyOf Tryz.f67) Tryz.func67 rfl rfl rfl rfl (fun w0 S0 => ?_)
      dsimp only [pt, rdP, xP, List.cons_append, List.nil_append] at h1 h2 h3 ⊢
      repeat' (first | refine SW ?_ | refine SD ?_ | (refine HO_k 12 rfl ?_; refine HO_call rfl rfl rfl rfl (h1) rfl (trivial) rfl rfl soA ?_; intro ⟨x1, c1⟩ g1; dsimp only [List.cons_append, List.nil_append]) | (refine HO_k 12 rfl ?_; refine HO_call rfl rfl rfl rfl (h2 x1 c1 g1) rfl (trivial) rfl rfl soA ?_; intro ⟨x2, c2⟩ g2; dsimp only [List.cons_append, List.nil_append]) | (refine HO_k 12 rfl ?_; refine HO_call rfl rfl rfl rfl (h3 x2 c2 g2) rfl (trivial) rfl rfl soA ?_; intro ⟨x3, c3⟩ g3; dsimp only [List.cons_append, List.nil_append]) | exact HO_seg rfl rfl | refine S1 ?_ | (refine S2 ?_; intro _) | (refine S3 ?_; intro _ _) | (refine S4 ?_; intro _ _ _) | (refine HO_g 2 rfl ?_; (first | apply HO_and rfl rfl rfl rfl rfl rfl rfl rfl rfl | apply HO_or rfl rfl rfl rfl rfl rfl rfl rfl rfl)) | refine S5 ?_ | (intro hb; try replace hb := simB hb; try exact kill hb))
      ((first | apply HX_ret | apply HX_retn); (repeat (first | exact Res_nil | apply Res_tmp rfl | apply Res_ce rfl rfl rfl)); unfold RetQ; refine ⟨(⟨{ x with id := i1 }, x3, c3, s3⟩ : RdY), ⟨g3, fun id ps s' h => (by cases h)⟩, rfl, Keeps.refl⟩)
  rw [if_neg hbad]
  have hi2 : i2 = 0 := by omega
  subst hi2
  obtain ⟨res, hres⟩ : ∃ r, peL i3 x.peers s3 = r := ⟨_, rfl⟩
  rw [hres]
  refine Tri_of (N := Tryz.f67.ntmps) (c := bodyOf Tryz.f67) Tryz.func67 rfl rfl rfl rfl (fun w0 S0 => ?_)
  dsimp only [pt, rdP, xP, List.cons_append, List.nil_append] at h1 h2 h3 ⊢
  repeat' (first | refine SW ?_ | refine SD ?_ | (refine HO_k 12 rfl ?_; refine HO_call rfl rfl rfl rfl (h1) rfl (trivial) rfl rfl soA ?_; intro ⟨x1, c1⟩ g1; dsimp only [List.cons_append, List.nil_append]) | (refine HO_k 12 rfl ?_; refine HO_call rfl rfl rfl rfl (h2 x1 c1 g1) rfl (trivial) rfl rfl soA ?_; intro ⟨x2, c2⟩ g2; dsimp only [List.cons_append, List.nil_append]) | (refine HO_k 12 rfl ?_; refine HO_call rfl rfl rfl rfl (h3 x2 c2 g2) rfl (trivial) rfl rfl soA ?_; intro ⟨x3, c3⟩ g3; dsimp only [List.cons_append, List.nil_append]) | exact HO_seg rfl rfl | refine S1 ?_ | (refine S2 ?_; intro _) | (refine S3 ?_; intro _ _) | (refine S4 ?_; intro _ _ _) | (refine HO_g 2 rfl ?_; (first | apply HO_and rfl rfl rfl rfl rfl rfl rfl rfl rfl | apply HO_or rfl rfl rfl rfl rfl rfl rfl rfl rfl)) | refine S5 ?_ | (intro hb; try replace hb := simB hb; try exact kill hb))
  refine HC_loop (α := PrI) (fun y => y.j ≤ i3 ∧ y.s.2.length ≤ 1000000000 ∧ y.s.2.length ≤ y.c ∧ y.peers.length ≤ 1000 + y.j ∧ peL (i3 - y.j) y.peers y.s = res) (fun y => [(25, .int .i64 y.j), (24, .int .i64 i3), (1, pt rb), (0, pt b)])
    (fun y => rdP rb y.A y.c y.s.1 y.s.2 ++ xP b { x with id := i1, pA := y.pA, pc := y.pc, peers := y.peers }) (fun y => i3 - y.j) rfl ⟨x3, c3, s3, x.pA, x.pc, x.peers, 0⟩ ⟨Nat.zero_le _, by simp only; omega, g3, hx, hres⟩ ⟨rfl, rfl, rfl, rfl, trivial⟩ rfl ?_
  clear hres g3
  intro ⟨A, c, s, pA, pc, peers, j⟩ ⟨hj, hs, hc, hp, hinv⟩
  dsimp only [rdP, xP, pt, List.cons_append, List.nil_append] at hj hs hc hp hinv ⊢
  rcases Nat.lt_or_ge j i3 with hlt | hge
  · have b1 := rS_len 1 s
    have b2 := rS_len 4 (rS 1 s)
    have b3 := rS_len 4 (rS 4 (rS 1 s))
    have b4 := rS_len 4 (rS 4 (rS 4 (rS 1 s)))
    have w2 := rV_lt 4 (rS 1 s)
    have w3 := rV_lt 4 (rS 4 (rS 1 s))
    have w4 := rV_lt 4 (rS 4 (rS 4 (rS 1 s)))
    have k1 := numG_t rb A c s 1 (by decide) hs hc
    have k2 := fun A c hc => numG_t rb A c (rS 1 s) 4 (by decide) (by omega) hc
    have k3 := fun A c hc => numG_t rb A c (rS 4 (rS 1 s)) 4 (by decide) (by omega) hc
    have k4 := fun A c hc => numG_t rb A c (rS 4 (rS 4 (rS 1 s))) 4 (by decide) (by omega) hc
    rw [show i3 - j = (i3 - (j + 1)) + 1 by omega] at hinv
    simp only [peL] at hinv
    obtain ⟨q1, d1⟩ : ∃ q, rS 1 s = q := ⟨_, rfl⟩
    obtain ⟨m1, n1⟩ : ∃ q, rV 1 s = q := ⟨_, rfl⟩
    simp only [d1, n1] at b1 b2 b3 b4 w2 w3 w4 k1 k2 k3 k4 hinv
    by_cases h2 : m1 = 2
    · rw [if_pos h2] at hinv
      subst h2
      obtain ⟨q2, d2⟩ : ∃ q, rS 4 q1 = q := ⟨_, rfl⟩
      obtain ⟨m2, n2⟩ : ∃ q, rV 4 q1 = q := ⟨_, rfl⟩
      simp only [d2, n2] at b2 b3 b4 w2 w3 w4 k2 k3 k4 hinv
      obtain ⟨q3, d3⟩ : ∃ q, rS 4 q2 = q := ⟨_, rfl⟩
      obtain ⟨m3, n3⟩ : ∃ q, rV 4 q2 = q := ⟨_, rfl⟩
      simp only [d3, n3] at b3 b4 w3 w4 k3 k4 hinv
      obtain ⟨q4, d4⟩ : ∃ q, rS 4 q3 = q := ⟨_, rfl⟩
      obtain ⟨m4, n4⟩ : ∃ q, rV 4 q3 = q := ⟨_, rfl⟩
      simp only [d4, n4] at b4 w4 k4 hinv
      dsimp only [pt, rdP] at k1 k2 k3 k4
      repeat' (first | refine SW ?_ | refine SD ?_ | (refine HO_k 12 rfl ?_; refine HO_call rfl rfl rfl rfl (k1) rfl (trivial) rfl rfl soA ?_; intro ⟨x1, c1⟩ g1; dsimp only [List.cons_append, List.nil_append]) | (refine HO_k 12 rfl ?_; refine HO_call rfl rfl rfl rfl (k2 x1 c1 g1) rfl (trivial) rfl rfl soA ?_; intro ⟨x2, c2⟩ g2; dsimp only [List.cons_append, List.nil_append]) | (refine HO_k 12 rfl ?_; refine HO_call rfl rfl rfl rfl (k3 x2 c2 g2) rfl (trivial) rfl rfl soA ?_; intro ⟨x3, c3⟩ g3; dsimp only [List.cons_append, List.nil_append]) | (refine HO_k 12 rfl ?_; refine HO_call rfl rfl rfl rfl (k4 x3 c3 g3) rfl (trivial) rfl rfl soA ?_; intro ⟨x4, c4⟩ g4; dsimp only [List.cons_append, List.nil_append]) | exact HO_seg rfl rfl | refine S1 ?_ | (refine S2 ?_; intro _) | (refine S3 ?_; intro _ _) | (refine S4 ?_; intro _ _ _) | (refine HO_g 2 rfl ?_; (first | apply HO_and rfl rfl rfl rfl rfl rfl rfl rfl rfl | apply HO_or rfl rfl rfl rfl rfl rfl rfl rfl rfl)) | refine S5 ?_ | (intro hb; try replace hb := simB hb; try exact kill hb))
      rename_i b9 A' c'
      have eL : peers.length + 1 = (peers ++ [(⟨m2, m3, m4⟩ : PeS)]).length := by simp
      have eM : List.map PeS.e peers ++ [[Value.int .u32 (m2 : Int), Value.int .u32 (m3 : Int), Value.int .i64 (m4 : Int)]] = List.map PeS.e (peers ++ [(⟨m2, m3, m4⟩ : PeS)]) := by rw [List.map_append]; rfl
      rw [eL, eM]
      refine HX_keeps (rw' := rdP rb x4 c4 q4.1 q4.2 ++ xP b { x with id := i1, pA := A', pc := c', peers := peers ++ [(⟨m2, m3, m4⟩ : PeS)] }) permA ?_
      exact HX_at ⟨x4, c4, q4, A', c', peers ++ [(⟨m2, m3, m4⟩ : PeS)], j + 1⟩ ⟨⟨hlt, by simp only; omega, g4, by simp only [List.length_append, List.length_cons, List.length_nil]; omega, hinv⟩, by simp only; omega⟩ ⟨rfl, rfl, rfl, rfl, trivial⟩ rfl
    · rw [if_neg h2] at hinv
      subst hinv
      dsimp only [pt, rdP] at k1
      repeat' (first | refine SW ?_ | refine SD ?_ | (refine HO_k 12 rfl ?_; refine HO_call rfl rfl rfl rfl (k1) rfl (trivial) rfl rfl soA ?_; intro ⟨x1, c1⟩ g1; dsimp only [List.cons_append, List.nil_append]) | exact HO_seg rfl rfl | refine S1 ?_ | (refine S2 ?_; intro _) | (refine S3 ?_; intro _ _) | (refine S4 ?_; intro _ _ _) | (refine HO_g 2 rfl ?_; (first | apply HO_and rfl rfl rfl rfl rfl rfl rfl rfl rfl | apply HO_or rfl rfl rfl rfl rfl rfl rfl rfl rfl)) | refine S5 ?_ | (intro hb; try replace hb := simB hb; try exact kill hb))
      ((first | apply HX_ret | apply HX_retn); (repeat (first | exact Res_nil | apply Res_tmp rfl | apply Res_ce rfl rfl rfl)); unfold RetQ; refine ⟨(⟨{ x with id := i1, pA := pA, pc := pc, peers := peers }, x1, c1, q1⟩ : RdY), ⟨g1, fun id ps s' h => (by cases h)⟩, rfl, Keeps.refl⟩)
  · obtain rfl : j = i3 := by omega
    rw [Nat.sub_self] at hinv
    have hinv : some (peers, s) = res := hinv
    subst hinv
    repeat' (first | refine SW ?_ | refine SD ?_ | exact HO_seg rfl rfl | refine S1 ?_ | (refine S2 ?_; intro _) | (refine S3 ?_; intro _ _) | (refine S4 ?_; intro _ _ _) | (refine HO_g 2 rfl ?_; (first | apply HO_and rfl rfl rfl rfl rfl rfl rfl rfl rfl | apply HO_or rfl rfl rfl rfl rfl rfl rfl rfl rfl)) | refine S5 ?_ | (intro hb; try replace hb := simB hb; try exact kill hb))
    ((first | apply HX_ret | apply HX_retn); (repeat (first | exact Res_nil | apply Res_tmp rfl | apply Res_ce rfl rfl rfl)); unfold RetQ; refine ⟨(⟨{ x with id := i1, pA := pA, pc := pc, peers := peers }, A, c, s⟩ : RdY), ⟨hc, fun id ps s' h => (by simp only [Option.some.injEq, Prod.mk.injEq] at h; obtain ⟨rfl, rfl, rfl⟩ := h; exact ⟨rfl, rfl, rfl, rfl, rfl, rfl, rfl, rfl⟩)⟩, rfl, Keeps.refl⟩)
theorem Keeps.inn_two {L L' : List SL} {rw rw' : List SL} (h : Keeps (inn (L ++ L') :: rw) rw') : Keeps (inn L :: inn L' :: rw) rw' := fun S w ⟨A, B, hA, hB, hd, hp, A2, B2, hA2, hB2, hd2, hp2, hs⟩ =>
  h S w ⟨fun b => A b ∨ A2 b, B2, fun b hb => hb.elim (hA b) (fun hb => hB b (hA2 b hb)), fun b hb => hB b (hB2 b hb), fun b h1 h2 => h1.elim (fun h1 => hd b h1 (hB2 b h2)) (fun h1 => hd2 b h1 h2), fun f hf => by
    rcases List.mem_append.1 hf with hf | hf
    · obtain ⟨F, hF, hp3⟩ := hp f hf
      exact ⟨F, fun b hb => .inl (hF b hb), hp3⟩
    · obtain ⟨F, hF, hp3⟩ := hp2 f hf
      exact ⟨F, fun b hb => .inr (hF b hb), hp3⟩, hs⟩
/-- a route, as plain data -/
structure RtQ where
  r : Int
  a : Nat
  n : Int
  id : Int
  p : PA
def RtS.q (x : RtS) : RtQ := ⟨x.r, x.a, x.n, x.id, x.at_.pa⟩
/-- a route that is read: what was read, and the bytes behind it -/
def routeM (t : Int) (m a : Nat) (n : Int) (s : RS) : Option (RtQ × RS) :=
  let s1 := rS 2 s
  let s2 := rS 4 s1
  let s3 := rS 4 s2
  let s4 := rS 2 s3
  let s5 := rS (rV 2 s3) s4
  let g := getG 4 (rB (rV 2 s3) s4)
  if g.2 = 1 ∧ (rV 4 s1 : Int) = t ∧ m + 1 ≤ 16384 then some (⟨rV 2 s, a, n, rV 4 s2, g.1⟩, s5) else none
theorem own_rt {x : OA} {l : List RtS} : Ent (ownR x l) (arr RtS.e 10 x.1 l) := fun S w h => arr_typed l S w (own_wf (WfL.map (enc := RtS.e)) S w h)
theorem rtPs_snoc (l : List RtS) (x : RtS) : rtPs (l ++ [x]) = rtPs l ++ (segPs x.at_.path ++ [arr SegS.e 2 x.at_.pA x.at_.path, arr iE 1 x.at_.cA x.at_.comms]) := by
  unfold rtPs
  rw [List.flatMap_append]
  simp [rtPs1]
set_option maxHeartbeats 32000000 in
set_option maxRecDepth 100000 in
theorem rroute_t (b rb : Nat) (x : RdS) (A : Option Addr) (c : Nat) (s : RS) (hb : s.2.length ≤ 1000000000) (hc : s.2.length ≤ c) (hx : x.routes.length ≤ 100000) (a : Nat) (n : Int) :
    Tri Tryz.prog 92 [pt b, pt rb, .agg #[.int .u32 a, .int .i64 n]] [] (rdP rb A c s.1 s.2 ++ xP b x)
      (fun y : RdY => y.s.2.length ≤ y.c ∧ y.s.2.length ≤ s.2.length ∧ ∀ q s', routeM x.t x.routes.length a n s = some (q, s') → y.s = s' ∧ y.x.routes.map RtS.q = x.routes.map RtS.q ++ [q] ∧ y.x.t = x.t ∧ y.x.id = x.id ∧ y.x.peers = x.peers ∧ y.x.n = x.n)
      (fun _ => .bool (routeM x.t x.routes.length a n s).isSome) (rdQ b rb) := by
  have a1 := rS_len 2 s
  have a2 := rS_len 4 (rS 2 s)
  have a3 := rS_len 4 (rS 4 (rS 2 s))
  have a4 := rS_len 2 (rS 4 (rS 4 (rS 2 s)))
  have v4 := rV_lt 2 (rS 4 (rS 4 (rS 2 s)))
  have k1 := numG_t rb A c s 2 (by decide) hb hc
  have k2 := fun A c hc => numG_t rb A c (rS 2 s) 4 (by decide) (by omega) hc
  have k3 := fun A c hc => numG_t rb A c (rS 4 (rS 2 s)) 4 (by decide) (by omega) hc
  have k4 := fun A c hc => numG_t rb A c (rS 4 (rS 4 (rS 2 s))) 2 (by decide) (by omega) hc
  unfold routeM
  simp only
  obtain ⟨s1, e1⟩ : ∃ q, rS 2 s = q := ⟨_, rfl⟩
  obtain ⟨i1, f1⟩ : ∃ q, rV 2 s = q := ⟨_, rfl⟩
  simp only [e1, f1] at a1 a2 a3 a4 v4 k1 k2 k3 k4 ⊢
  obtain ⟨s2, e2⟩ : ∃ q, rS 4 s1 = q := ⟨_, rfl⟩
  obtain ⟨i2, f2⟩ : ∃ q, rV 4 s1 = q := ⟨_, rfl⟩
  simp only [e2, f2] at a2 a3 a4 v4 k2 k3 k4 ⊢
  obtain ⟨s3, e3⟩ : ∃ q, rS 4 s2 = q := ⟨_, rfl⟩
  obtain ⟨i3, f3⟩ : ∃ q, rV 4 s2 = q := ⟨_, rfl⟩
  simp only [e3, f3] at a3 a4 v4 k3 k4 ⊢
  obtain ⟨s4, e4⟩ : ∃ q, rS 2 s3 = q := ⟨_, rfl⟩
  obtain ⟨i4, f4⟩ : ∃ q, rV 2 s3 = q := ⟨_, rfl⟩
  simp only [e4, f4] at a4 v4 k4 ⊢
  have a5 := rS_len i4 s4
  have hdl := rB_len i4 s4
  have k5 := fun A c hc => bytesG_t rb A c s4 i4 (by omega) hc
  obtain ⟨s5, e5⟩ : ∃ q, rS i4 s4 = q := ⟨_, rfl⟩
  obtain ⟨dt, ed⟩ : ∃ q, rB i4 s4 = q := ⟨_, rfl⟩
  simp only [e5, ed] at a5 hdl k5 ⊢
  have hag := fun A c => aget_t true A c dt (by omega)
  rw [show szF true = 4 from rfl] at hag
  obtain ⟨pa, vd, hg⟩ : ∃ pa vd, getG 4 dt = (pa, vd) := ⟨_, _, rfl⟩
  simp only [hg] at hag ⊢
  have hlen : s5.2.length ≤ s.2.length := by omega
  have hval : ∀ L : Nat, (decide (vd = 1) && decide ((i2 : Int) = x.t) && decide (((L : Nat) : Int) ≤ 16384)) = (if vd = 1 ∧ (i2 : Int) = x.t ∧ L ≤ 16384 then some ((⟨i1, a, n, i3, pa⟩ : RtQ), s5) else none).isSome := fun L => by
    by_cases c1 : vd = 1 ∧ (i2 : Int) = x.t ∧ L ≤ 16384
    · rw [if_pos c1, decide_eq_true c1.1, decide_eq_true c1.2.1, decide_eq_true (by omega)]
      rfl
    · rw [if_neg c1]
      show _ = false
      rw [← Bool.decide_and, ← Bool.decide_and]
      exact decide_eq_false fun h => c1 ⟨h.1.1, h.1.2, by omega⟩
  refine Tri_of (N := Tryz.f92.ntmps) (c := bodyOf Tryz.f92) Tryz.func92 rfl rfl rfl rfl (fun w0 S0 => ?_)
  dsimp only [pt, rdP, xP, List.cons_append, List.nil_append] at k1 k2 k3 k4 k5 ⊢
  repeat' (first | refine SW ?_ | exact HO_seg rfl rfl | refine S1 ?_ | (refine S2 ?_; intro _) | (refine S3 ?_; intro _ _) | (refine S4 ?_; intro _ _ _) | (refine HO_g 2 rfl ?_; (first | apply HO_and rfl rfl rfl rfl rfl rfl rfl rfl rfl | apply HO_or rfl rfl rfl rfl rfl rfl rfl rfl rfl)) | refine S5 ?_ | (intro hb; try replace hb := simB hb; try exact kill hb))
  refine HO_two (i := 1) (j := 5) (l1 := [3, 4, 5, 6]) (l2 := [1, 3, 4, 6]) (by decide +kernel) rfl ⟨by decide +kernel, rfl, rfl⟩ ⟨by decide +kernel, rfl, rfl⟩ ?_ ?_
  · repeat' (first | refine SW ?_ | refine SD ?_ | (refine HO_k 12 rfl ?_; refine HO_call rfl rfl rfl rfl (k1) rfl (trivial) rfl rfl soA ?_; intro ⟨x1, c1⟩ g1; dsimp only [List.cons_append, List.nil_append]) | (refine HO_k 12 rfl ?_; refine HO_mv 3 rfl rfl ?_; refine HO_mv 3 rfl rfl ?_; refine HO_call rfl rfl rfl rfl (k2 x1 c1 g1) rfl (trivial) rfl rfl soA ?_; intro ⟨x2, c2⟩ g2; dsimp only [List.cons_append, List.nil_append]) | (refine HO_k 12 rfl ?_; refine HO_mv 2 rfl rfl ?_; refine HO_mv 2 rfl rfl ?_; refine HO_call rfl rfl rfl rfl (k2 x1 c1 g1) rfl (trivial) rfl rfl soA ?_; intro ⟨x2, c2⟩ g2; dsimp only [List.cons_append, List.nil_append]) | (refine HO_k 12 rfl ?_; refine HO_call rfl rfl rfl rfl (k3 x2 c2 g2) rfl (trivial) rfl rfl soA ?_; intro ⟨x3, c3⟩ g3; dsimp only [List.cons_append, List.nil_append]) | (refine HO_k 12 rfl ?_; refine HO_call rfl rfl rfl rfl (k4 x3 c3 g3) rfl (trivial) rfl rfl soA ?_; intro ⟨x4, c4⟩ g4; dsimp only [List.cons_append, List.nil_append]) | (refine HO_k 12 rfl ?_; refine HO_call rfl rfl rfl rfl (k5 x4 c4 g4) rfl (trivial) rfl rfl soA ?_; intro ⟨⟨x5, c5⟩, ⟨x6, c6⟩⟩ g5; dsimp only [List.cons_append, List.nil_append]) | (refine HO_k 12 rfl ?_; refine HO_call rfl rfl rfl rfl (hag x5 c5) rfl (srcsA) rfl rfl soA ?_; intro at' hat; dsimp only [AttS.ro, List.cons_append, List.nil_append]) | exact HO_seg rfl rfl | refine S1 ?_ | (refine S2 ?_; intro _) | (refine S3 ?_; intro _ _) | (refine S4 ?_; intro _ _ _) | (refine HO_g 2 rfl ?_; (first | apply HO_and rfl rfl rfl rfl rfl rfl rfl rfl rfl | apply HO_or rfl rfl rfl rfl rfl rfl rfl rfl rfl)) | refine S5 ?_ | (intro hb; try replace hb := simB hb; try exact kill hb))
    rename_i b5 b7 b9 bs A' c'
    have hat : at'.pa = pa := hat
    obtain ⟨sg, hsg⟩ : ∃ sg : RtS, sg = ⟨i1, a, n, i3, at'⟩ := ⟨_, rfl⟩
    have eL : x.routes.length + 1 = (x.routes ++ [sg]).length := by simp
    have eM : List.map RtS.e x.routes ++ [[Value.int .i64 (i1 : Int), .int .u32 a, .int .i64 n, .int .i64 (i3 : Int), .int .i64 at'.org, .slice at'.pA at'.path.length at'.pc, .int .u32 at'.nxt, .int .i64 at'.med, .int .i64 at'.pref, .slice at'.cA at'.comms.length at'.cc]] = List.map RtS.e (x.routes ++ [sg]) := by rw [List.map_append, hsg]; rfl
    have eP : rtPs x.routes ++ segPs at'.path ++ [arr SegS.e 2 at'.pA at'.path] ++ [arr iE 1 at'.cA at'.comms] = rtPs (x.routes ++ [sg]) := by rw [rtPs_snoc, hsg]; simp only [List.append_assoc, List.cons_append, List.nil_append]
    rw [eL, eM]
    (first | apply HX_ret | apply HX_retn); (repeat (first | exact Res_nil | apply Res_tmp rfl | apply Res_ce rfl rfl rfl))
    unfold RetQ
    refine ⟨(⟨{ x with rA := A', rc := c', routes := x.routes ++ [sg] }, x6, c6, s5⟩ : RdY), ⟨g5.2, hlen, fun q s' h => ?_⟩, congrArg Value.bool (hval _), ?_⟩
    · split at h
      · injection h with h
        injection h with h1 h2
        subst h1 h2
        exact ⟨rfl, by rw [List.map_append, hsg, ← hat]; rfl, rfl, rfl, rfl, rfl⟩
      · cases h
    · unfold rdQ
      dsimp only [rdP, xP, List.cons_append, List.nil_append]
      refine Keeps.comp (b := [inn (rtPs x.routes), inn (segPs at'.path), arr SegS.e 2 at'.pA at'.path, arr iE 1 at'.cA at'.comms, cel rb TR [.slice x6 s5.2.length c6, .bool s5.1], arr bE 1 x6 s5.2, cel b TRd [.int .i64 x.t, .int .u32 x.id, .slice x.pA x.peers.length x.pc, .slice A' (x.routes ++ [sg]).length c', .int .i64 x.n], ownP (x.pA, x.pc) x.peers, ownR (A', c') (x.routes ++ [sg])]) permA ?_
      refine Keeps.inn_two (Keeps.inn_snoc (Keeps.inn_snoc ?_))
      rw [eP]
      exact permA
  · repeat' (first | refine SW ?_ | refine SD ?_ | (refine HO_k 12 rfl ?_; refine HO_mv 2 rfl rfl ?_; refine HO_mv 2 rfl rfl ?_; refine HO_call rfl rfl rfl rfl (k1) rfl (trivial) rfl rfl soA ?_; intro ⟨x1, c1⟩ g1; dsimp only [List.cons_append, List.nil_append]) | (refine HO_k 12 rfl ?_; refine HO_mv 3 rfl rfl ?_; refine HO_mv 3 rfl rfl ?_; refine HO_call rfl rfl rfl rfl (k2 x1 c1 g1) rfl (trivial) rfl rfl soA ?_; intro ⟨x2, c2⟩ g2; dsimp only [List.cons_append, List.nil_append]) | (refine HO_k 12 rfl ?_; refine HO_mv 2 rfl rfl ?_; refine HO_mv 2 rfl rfl ?_; refine HO_call rfl rfl rfl rfl (k2 x1 c1 g1) rfl (trivial) rfl rfl soA ?_; intro ⟨x2, c2⟩ g2; dsimp only [List.cons_append, List.nil_append]) | (refine HO_k 12 rfl ?_; refine HO_call rfl rfl rfl rfl (k3 x2 c2 g2) rfl (trivial) rfl rfl soA ?_; intro ⟨x3, c3⟩ g3; dsimp only [List.cons_append, List.nil_append]) | (refine HO_k 12 rfl ?_; refine HO_call rfl rfl rfl rfl (k4 x3 c3 g3) rfl (trivial) rfl rfl soA ?_; intro ⟨x4, c4⟩ g4; dsimp only [List.cons_append, List.nil_append]) | (refine HO_k 12 rfl ?_; refine HO_call rfl rfl rfl rfl (k5 x4 c4 g4) rfl (trivial) rfl rfl soA ?_; intro ⟨⟨x5, c5⟩, ⟨x6, c6⟩⟩ g5; dsimp only [List.cons_append, List.nil_append]) | (refine HO_k 12 rfl ?_; refine HO_call rfl rfl rfl rfl (hag x5 c5) rfl (srcsA) rfl rfl soA ?_; intro at' hat; dsimp only [AttS.ro, List.cons_append, List.nil_append]) | exact HO_seg rfl rfl | refine S1 ?_ | (refine S2 ?_; intro _) | (refine S3 ?_; intro _ _) | (refine S4 ?_; intro _ _ _) | (refine HO_g 2 rfl ?_; (first | apply HO_and rfl rfl rfl rfl rfl rfl rfl rfl rfl | apply HO_or rfl rfl rfl rfl rfl rfl rfl rfl rfl)) | refine S5 ?_ | (intro hb; try replace hb := simB hb; try exact kill hb))
    rename_i b5 b7 b9 bs A' c'
    have hat : at'.pa = pa := hat
    obtain ⟨sg, hsg⟩ : ∃ sg : RtS, sg = ⟨i1, a, n, i3, at'⟩ := ⟨_, rfl⟩
    have eL : x.routes.length + 1 = (x.routes ++ [sg]).length := by simp
    have eM : List.map RtS.e x.routes ++ [[Value.int .i64 (i1 : Int), .int .u32 a, .int .i64 n, .int .i64 (i3 : Int), .int .i64 at'.org, .slice at'.pA at'.path.length at'.pc, .int .u32 at'.nxt, .int .i64 at'.med, .int .i64 at'.pref, .slice at'.cA at'.comms.length at'.cc]] = List.map RtS.e (x.routes ++ [sg]) := by rw [List.map_append, hsg]; rfl
    have eP : rtPs x.routes ++ segPs at'.path ++ [arr SegS.e 2 at'.pA at'.path] ++ [arr iE 1 at'.cA at'.comms] = rtPs (x.routes ++ [sg]) := by rw [rtPs_snoc, hsg]; simp only [List.append_assoc, List.cons_append, List.nil_append]
    rw [eL, eM]
    (first | apply HX_ret | apply HX_retn); (repeat (first | exact Res_nil | apply Res_tmp rfl | apply Res_ce rfl rfl rfl))
    unfold RetQ
    refine ⟨(⟨{ x with rA := A', rc := c', routes := x.routes ++ [sg] }, x6, c6, s5⟩ : RdY), ⟨g5.2, hlen, fun q s' h => ?_⟩, congrArg Value.bool (hval _), ?_⟩
    · split at h
      · injection h with h
        injection h with h1 h2
        subst h1 h2
        exact ⟨rfl, by rw [List.map_append, hsg, ← hat]; rfl, rfl, rfl, rfl, rfl⟩
      · cases h
    · unfold rdQ
      dsimp only [rdP, xP, List.cons_append, List.nil_append]
      refine Keeps.comp (b := [inn (rtPs x.routes), inn (segPs at'.path), arr SegS.e 2 at'.pA at'.path, arr iE 1 at'.cA at'.comms, cel rb TR [.slice x6 s5.2.length c6, .bool s5.1], arr bE 1 x6 s5.2, cel b TRd [.int .i64 x.t, .int .u32 x.id, .slice x.pA x.peers.length x.pc, .slice A' (x.routes ++ [sg]).length c', .int .i64 x.n], ownP (x.pA, x.pc) x.peers, ownR (A', c') (x.routes ++ [sg])]) permA ?_
      refine Keeps.inn_two (Keeps.inn_snoc (Keeps.inn_snoc ?_))
      rw [eP]
      exact permA
attribute [local irreducible] routeM

/-- routes of one prefix -/
def rtA : Nat → Int → List RtQ → Nat → Int → RS → Option (List RtQ × RS)
  | 0, _, acc, _, _, s => some (acc, s)
  | k + 1, t, acc, a, n, s => match routeM t acc.length a n s with
    | none => none
    | some (q, s') => rtA k t (acc ++ [q]) a n s'
theorem rtA_succ (k : Nat) (t : Int) (acc : List RtQ) (a : Nat) (n : Int) (s : RS) : rtA (k + 1) t acc a n s = match routeM t acc.length a n s with
    | none => none
    | some (q, s') => rtA k t (acc ++ [q]) a n s' := rfl
def routesM (t nrec : Int) (acc : List RtQ) (s : RS) : Option (List RtQ × RS) :=
  let s2 := rS 1 (rS 4 s)
  let long := rV 1 (rS 4 s)
  let s3 := rS ((long + 7) / 8) s2
  match pfG (UInt8.ofNat long :: rB ((long + 7) / 8) s2) with
  | none => none
  | some (a, k) => if (rV 4 s : Int) = nrec ∧ rV 2 s3 ≠ 0 then rtA (rV 2 s3) t acc a k (rS 2 s3) else none
theorem quo8w : ∀ k, k < 256 → bQuo .i64 ((k : Nat) + 7) 8 = (((k + 7) / 8 : Nat) : Int) := by decide +kernel
theorem pfG_lt {l : List UInt8} {a k : Nat} (h : pfG l = some (a, k)) : a < 4294967296 ∧ k ≤ 32 := by
  cases l with
  | nil => cases h
  | cons c r =>
    simp only [pfG] at h
    split at h
    · rename_i hc
      injection h with h
      injection h with h1 h2
      subst h1 h2
      exact ⟨Nat.lt_of_le_of_lt (topN_le _ _) (adG_lt _ (by rw [List.length_take]; omega)), hc.1⟩
    · cases h
/-- what stays of a reading while routes are read -/
structure Stay (x y : RdS) : Prop where
  t : y.t = x.t
  i : y.id = x.id
  p : y.peers = x.peers
structure RlI where
  y : RdY
  j : Nat
set_option maxHeartbeats 64000000 in
set_option maxRecDepth 100000 in
theorem rroutes_t (b rb : Nat) (x : RdS) (A : Option Addr) (c : Nat) (s : RS) (hb : s.2.length ≤ 1000000000) (hc : s.2.length ≤ c) (hx : x.routes.length ≤ 16384) (hn : 0 ≤ x.n ∧ x.n ≤ 1000000000) :
    Tri Tryz.prog 66 [pt b, pt rb] [] (rdP rb A c s.1 s.2 ++ xP b x)
      (fun y : RdY => y.s.2.length ≤ y.c ∧ ∀ qs s', routesM x.t x.n (x.routes.map RtS.q) s = some (qs, s') → y.s = s' ∧ y.x.routes.map RtS.q = qs ∧ y.x.n = x.n + 1 ∧ y.x.routes.length ≤ 16384 ∧ Stay x y.x)
      (fun _ => .bool (routesM x.t x.n (x.routes.map RtS.q) s).isSome) (rdQ b rb) := by
  have a1 := rS_len 4 s
  have a2 := rS_len 1 (rS 4 s)
  have v2 := rV_lt 1 (rS 4 s)
  have k1 := numG_t rb A c s 4 (by decide) hb hc
  have k2 := fun A c hc => numG_t rb A c (rS 4 s) 1 (by decide) (by omega) hc
  unfold routesM
  simp only
  obtain ⟨s1, e1⟩ : ∃ q, rS 4 s = q := ⟨_, rfl⟩
  obtain ⟨i1, f1⟩ : ∃ q, rV 4 s = q := ⟨_, rfl⟩
  simp only [e1, f1] at a1 a2 v2 k1 k2 ⊢
  obtain ⟨s2, e2⟩ : ∃ q, rS 1 s1 = q := ⟨_, rfl⟩
  obtain ⟨lg, f2⟩ : ∃ q, rV 1 s1 = q := ⟨_, rfl⟩
  simp only [e2, f2] at a2 v2 k2 ⊢
  have hq8 := quo8w lg v2
  obtain ⟨w, hw⟩ : ∃ w, (lg + 7) / 8 = w := ⟨_, rfl⟩
  rw [hw] at hq8 ⊢
  have a3 := rS_len w s2
  have hbl := rB_len w s2
  have k3 := fun A c hc => bytesG_t rb A c s2 w (by omega) hc
  obtain ⟨s3, e3⟩ : ∃ q, rS w s2 = q := ⟨_, rfl⟩
  obtain ⟨bs, f3⟩ : ∃ q, rB w s2 = q := ⟨_, rfl⟩
  simp only [e3, f3] at a3 hbl k3 ⊢
  have a4 := rS_len 2 s3
  have v4 := rV_lt 2 s3
  have k4 := fun A c hc => numG_t rb A c s3 2 (by decide) (by omega) hc
  obtain ⟨s4, e4⟩ : ∃ q, rS 2 s3 = q := ⟨_, rfl⟩
  obtain ⟨cnt, f4⟩ : ∃ q, rV 2 s3 = q := ⟨_, rfl⟩
  simp only [e4, f4] at a4 v4 k4 ⊢
  have u1 : (((UInt8.ofNat lg).toNat : Nat) : Int) = (lg : Int) := by simp; omega
  have eM : [[Value.int .u8 (lg : Int)]] ++ List.map bE bs = List.map bE (UInt8.ofNat lg :: bs) := by rw [← u1]; rfl
  have eL : 1 + bs.length = (UInt8.ofNat lg :: bs).length := by rw [List.length_cons]; omega
  obtain ⟨bl, hbl0⟩ : ∃ l, UInt8.ofNat lg :: bs = l := ⟨_, rfl⟩
  rw [hbl0] at eM eL ⊢
  have hb100 : bl.length ≤ 100000 := by omega
  cases hpf : pfG bl with
  | none =>
    have hpg := fun A c => pget_bad A c bl hb100 hpf
    dsimp only [pfV] at hpg
    simp only
    by_cases q1 : (i1 : Int) = x.n
    · refine Tri_of (N := Tryz.f66.ntmps) (c := bodyOf Tryz.f66) Tryz.func66 rfl rfl rfl rfl (fun w0 S0 => ?_)
      dsimp only [pt, rdP, xP, List.cons_append, List.nil_append] at k1 k2 k3 k4 ⊢
      repeat' (first | refine SW ?_ | refine SD ?_ | (with_reducible refine HO_rw (congrArg (Value.int .i64) hq8) ?_) | (refine HO_k 12 rfl ?_; refine HO_call rfl rfl rfl rfl (k1) rfl (trivial) rfl rfl soA ?_; intro ⟨x1, c1⟩ g1; dsimp only [List.cons_append, List.nil_append]) | (refine HO_k 12 rfl ?_; refine HO_call rfl rfl rfl rfl (k2 x1 c1 g1) rfl (trivial) rfl rfl soA ?_; intro ⟨x2, c2⟩ g2; dsimp only [List.cons_append, List.nil_append]) | (refine HO_k 12 rfl ?_; refine HO_mv 2 rfl rfl ?_; refine HO_mv 2 rfl rfl ?_; refine HO_call rfl rfl rfl rfl (k3 x2 c2 g2) rfl (trivial) rfl rfl soA ?_; intro ⟨⟨x3, c3⟩, ⟨x4, c4⟩⟩ g3; dsimp only [List.cons_append, List.nil_append]) | exact HO_seg rfl rfl | refine S1 ?_ | (refine S2 ?_; intro _) | (refine S3 ?_; intro _ _) | (refine S4 ?_; intro _ _ _) | (refine HO_g 2 rfl ?_; (first | apply HO_and rfl rfl rfl rfl rfl rfl rfl rfl rfl | apply HO_or rfl rfl rfl rfl rfl rfl rfl rfl rfl)) | refine S5 ?_ | (intro hb; try replace hb := simB hb; try exact kill hb))
      rename_i A' c'
      rw [eM, eL]
      repeat' (first | refine SW ?_ | refine SD ?_ | (refine HO_k 12 rfl ?_; refine HO_callq rfl rfl rfl rfl (hpg _ _) (fun _ _ => rfl) (AllSrc.own 0 rfl rfl trivial) rfl rfl sqA ?_) | (refine HO_k 12 rfl ?_; refine HO_mv 4 rfl rfl ?_; refine HO_mv 4 rfl rfl ?_; refine HO_call rfl rfl rfl rfl (k4 x4 c4 g3.2) rfl (trivial) rfl rfl soA ?_; intro ⟨x5, c5⟩ g5; dsimp only [List.cons_append, List.nil_append]) | exact HO_seg rfl rfl | refine S1 ?_ | (refine S2 ?_; intro _) | (refine S3 ?_; intro _ _) | (refine S4 ?_; intro _ _ _) | (refine HO_g 2 rfl ?_; (first | apply HO_and rfl rfl rfl rfl rfl rfl rfl rfl rfl | apply HO_or rfl rfl rfl rfl rfl rfl rfl rfl rfl)) | refine S5 ?_ | (intro hb; try replace hb := simB hb; try exact kill hb))
      ((first | apply HX_ret | apply HX_retn); (repeat (first | exact Res_nil | apply Res_tmp rfl | apply Res_ce rfl rfl rfl)); unfold RetQ; refine ⟨(⟨x, x5, c5, s4⟩ : RdY), ⟨g5, fun qs s' h => (by cases h)⟩, rfl, permA⟩)
    · refine Tri_of (N := Tryz.f66.ntmps) (c := bodyOf Tryz.f66) Tryz.func66 rfl rfl rfl rfl (fun w0 S0 => ?_)
      dsimp only [pt, rdP, xP, List.cons_append, List.nil_append] at k1 k2 k3 k4 ⊢
      repeat' (first | refine SW ?_ | refine SD ?_ | (with_reducible refine HO_rw (congrArg (Value.int .i64) hq8) ?_) | (refine HO_k 12 rfl ?_; refine HO_call rfl rfl rfl rfl (k1) rfl (trivial) rfl rfl soA ?_; intro ⟨x1, c1⟩ g1; dsimp only [List.cons_append, List.nil_append]) | (refine HO_k 12 rfl ?_; refine HO_call rfl rfl rfl rfl (k2 x1 c1 g1) rfl (trivial) rfl rfl soA ?_; intro ⟨x2, c2⟩ g2; dsimp only [List.cons_append, List.nil_append]) | (refine HO_k 12 rfl ?_; refine HO_mv 2 rfl rfl ?_; refine HO_mv 2 rfl rfl ?_; refine HO_call rfl rfl rfl rfl (k3 x2 c2 g2) rfl (trivial) rfl rfl soA ?_; intro ⟨⟨x3, c3⟩, ⟨x4, c4⟩⟩ g3; dsimp only [List.cons_append, List.nil_append]) | exact HO_seg rfl rfl | refine S1 ?_ | (refine S2 ?_; intro _) | (refine S3 ?_; intro _ _) | (refine S4 ?_; intro _ _ _) | (refine HO_g 2 rfl ?_; (first | apply HO_and rfl rfl rfl rfl rfl rfl rfl rfl rfl | apply HO_or rfl rfl rfl rfl rfl rfl rfl rfl rfl)) | refine S5 ?_ | (intro hb; try replace hb := simB hb; try exact kill hb))
      rename_i A' c'
      rw [eM, eL]
      repeat' (first | refine SW ?_ | refine SD ?_ | (refine HO_k 12 rfl ?_; refine HO_callq rfl rfl rfl rfl (hpg _ _) (fun _ _ => rfl) (AllSrc.own 0 rfl rfl trivial) rfl rfl sqA ?_) | (refine HO_k 12 rfl ?_; refine HO_mv 4 rfl rfl ?_; refine HO_mv 4 rfl rfl ?_; refine HO_call rfl rfl rfl rfl (k4 x4 c4 g3.2) rfl (trivial) rfl rfl soA ?_; intro ⟨x5, c5⟩ g5; dsimp only [List.cons_append, List.nil_append]) | exact HO_seg rfl rfl | refine S1 ?_ | (refine S2 ?_; intro _) | (refine S3 ?_; intro _ _) | (refine S4 ?_; intro _ _ _) | (refine HO_g 2 rfl ?_; (first | apply HO_and rfl rfl rfl rfl rfl rfl rfl rfl rfl | apply HO_or rfl rfl rfl rfl rfl rfl rfl rfl rfl)) | refine S5 ?_ | (intro hb; try replace hb := simB hb; try exact kill hb))
      ((first | apply HX_ret | apply HX_retn); (repeat (first | exact Res_nil | apply Res_tmp rfl | apply Res_ce rfl rfl rfl)); unfold RetQ; refine ⟨(⟨x, x5, c5, s4⟩ : RdY), ⟨g5, fun qs s' h => (by cases h)⟩, rfl, permA⟩)
  | some ak =>
    obtain ⟨a, k⟩ := ak
    obtain ⟨hal, hk32⟩ := pfG_lt hpf
    have hpg := fun A c => pget_t A c bl hb100 a k hpf
    dsimp only [pfV] at hpg
    simp only
    by_cases q1 : (i1 : Int) = x.n
    rotate_left
    · rw [if_neg (fun h => q1 h.1)]
      refine Tri_of (N := Tryz.f66.ntmps) (c := bodyOf Tryz.f66) Tryz.func66 rfl rfl rfl rfl (fun w0 S0 => ?_)
      dsimp only [pt, rdP, xP, List.cons_append, List.nil_append] at k1 k2 k3 k4 ⊢
      repeat' (first | refine SW ?_ | refine SD ?_ | (with_reducible refine HO_rw (congrArg (Value.int .i64) hq8) ?_) | (refine HO_k 12 rfl ?_; refine HO_call rfl rfl rfl rfl (k1) rfl (trivial) rfl rfl soA ?_; intro ⟨x1, c1⟩ g1; dsimp only [List.cons_append, List.nil_append]) | (refine HO_k 12 rfl ?_; refine HO_call rfl rfl rfl rfl (k2 x1 c1 g1) rfl (trivial) rfl rfl soA ?_; intro ⟨x2, c2⟩ g2; dsimp only [List.cons_append, List.nil_append]) | (refine HO_k 12 rfl ?_; refine HO_mv 2 rfl rfl ?_; refine HO_mv 2 rfl rfl ?_; refine HO_call rfl rfl rfl rfl (k3 x2 c2 g2) rfl (trivial) rfl rfl soA ?_; intro ⟨⟨x3, c3⟩, ⟨x4, c4⟩⟩ g3; dsimp only [List.cons_append, List.nil_append]) | exact HO_seg rfl rfl | refine S1 ?_ | (refine S2 ?_; intro _) | (refine S3 ?_; intro _ _) | (refine S4 ?_; intro _ _ _) | (refine HO_g 2 rfl ?_; (first | apply HO_and rfl rfl rfl rfl rfl rfl rfl rfl rfl | apply HO_or rfl rfl rfl rfl rfl rfl rfl rfl rfl)) | refine S5 ?_ | (intro hb; try replace hb := simB hb; try exact kill hb))
      rename_i A' c'
      rw [eM, eL]
      repeat' (first | refine SW ?_ | refine SD ?_ | (refine HO_k 12 rfl ?_; refine HO_callq rfl rfl rfl rfl (hpg _ _) (fun _ _ => rfl) (AllSrc.own 0 rfl rfl trivial) rfl rfl sqA ?_) | (refine HO_k 12 rfl ?_; refine HO_mv 4 rfl rfl ?_; refine HO_mv 4 rfl rfl ?_; refine HO_call rfl rfl rfl rfl (k4 x4 c4 g3.2) rfl (trivial) rfl rfl soA ?_; intro ⟨x5, c5⟩ g5; dsimp only [List.cons_append, List.nil_append]) | exact HO_seg rfl rfl | refine S1 ?_ | (refine S2 ?_; intro _) | (refine S3 ?_; intro _ _) | (refine S4 ?_; intro _ _ _) | (refine HO_g 2 rfl ?_; (first | apply HO_and rfl rfl rfl rfl rfl rfl rfl rfl rfl | apply HO_or rfl rfl rfl rfl rfl rfl rfl rfl rfl)) | refine S5 ?_ | (intro hb; try replace hb := simB hb; try exact kill hb))
      ((first | apply HX_ret | apply HX_retn); (repeat (first | exact Res_nil | apply Res_tmp rfl | apply Res_ce rfl rfl rfl)); unfold RetQ; refine ⟨(⟨x, x5, c5, s4⟩ : RdY), ⟨g5, fun qs s' h => (by cases h)⟩, rfl, permA⟩)
    by_cases q2 : cnt = 0
    · rw [if_neg (fun h => h.2 q2)]
      subst q2
      refine Tri_of (N := Tryz.f66.ntmps) (c := bodyOf Tryz.f66) Tryz.func66 rfl rfl rfl rfl (fun w0 S0 => ?_)
      dsimp only [pt, rdP, xP, List.cons_append, List.nil_append] at k1 k2 k3 k4 ⊢
      repeat' (first | refine SW ?_ | refine SD ?_ | (with_reducible refine HO_rw (congrArg (Value.int .i64) hq8) ?_) | (refine HO_k 12 rfl ?_; refine HO_call rfl rfl rfl rfl (k1) rfl (trivial) rfl rfl soA ?_; intro ⟨x1, c1⟩ g1; dsimp only [List.cons_append, List.nil_append]) | (refine HO_k 12 rfl ?_; refine HO_call rfl rfl rfl rfl (k2 x1 c1 g1) rfl (trivial) rfl rfl soA ?_; intro ⟨x2, c2⟩ g2; dsimp only [List.cons_append, List.nil_append]) | (refine HO_k 12 rfl ?_; refine HO_mv 2 rfl rfl ?_; refine HO_mv 2 rfl rfl ?_; refine HO_call rfl rfl rfl rfl (k3 x2 c2 g2) rfl (trivial) rfl rfl soA ?_; intro ⟨⟨x3, c3⟩, ⟨x4, c4⟩⟩ g3; dsimp only [List.cons_append, List.nil_append]) | exact HO_seg rfl rfl | refine S1 ?_ | (refine S2 ?_; intro _) | (refine S3 ?_; intro _ _) | (refine S4 ?_; intro _ _ _) | (refine HO_g 2 rfl ?_; (first | apply HO_and rfl rfl rfl rfl rfl rfl rfl rfl rfl | apply HO_or rfl rfl rfl rfl rfl rfl rfl rfl rfl)) | refine S5 ?_ | (intro hb; try replace hb := simB hb; try exact kill hb))
      rename_i A' c'
      rw [eM, eL]
      repeat' (first | refine SW ?_ | refine SD ?_ | (refine HO_k 12 rfl ?_; refine HO_callq rfl rfl rfl rfl (hpg _ _) (fun _ _ => rfl) (AllSrc.own 0 rfl rfl trivial) rfl rfl sqA ?_) | (refine HO_k 12 rfl ?_; refine HO_mv 4 rfl rfl ?_; refine HO_mv 4 rfl rfl ?_; refine HO_call rfl rfl rfl rfl (k4 x4 c4 g3.2) rfl (trivial) rfl rfl soA ?_; intro ⟨x5, c5⟩ g5; dsimp only [List.cons_append, List.nil_append]) | exact HO_seg rfl rfl | refine S1 ?_ | (refine S2 ?_; intro _) | (refine S3 ?_; intro _ _) | (refine S4 ?_; intro _ _ _) | (refine HO_g 2 rfl ?_; (first | apply HO_and rfl rfl rfl rfl rfl rfl rfl rfl rfl | apply HO_or rfl rfl rfl rfl rfl rfl rfl rfl rfl)) | refine S5 ?_ | (intro hb; try replace hb := simB hb; try exact kill hb))
      ((first | apply HX_ret | apply HX_retn); (repeat (first | exact Res_nil | apply Res_tmp rfl | apply Res_ce rfl rfl rfl)); unfold RetQ; refine ⟨(⟨x, x5, c5, s4⟩ : RdY), ⟨g5, fun qs s' h => (by cases h)⟩, rfl, permA⟩)
    rw [if_pos ⟨q1, q2⟩]
    obtain ⟨res, hres⟩ : ∃ r, rtA cnt x.t (x.routes.map RtS.q) a k s4 = r := ⟨_, rfl⟩
    rw [hres]
    refine Tri_of (N := Tryz.f66.ntmps) (c := bodyOf Tryz.f66) Tryz.func66 rfl rfl rfl rfl (fun w0 S0 => ?_)
    dsimp only [pt, rdP, xP, List.cons_append, List.nil_append] at k1 k2 k3 k4 ⊢
    repeat' (first | refine SW ?_ | refine SD ?_ | (with_reducible refine HO_rw (congrArg (Value.int .i64) hq8) ?_) | (refine HO_k 12 rfl ?_; refine HO_call rfl rfl rfl rfl (k1) rfl (trivial) rfl rfl soA ?_; intro ⟨x1, c1⟩ g1; dsimp only [List.cons_append, List.nil_append]) | (refine HO_k 12 rfl ?_; refine HO_call rfl rfl rfl rfl (k2 x1 c1 g1) rfl (trivial) rfl rfl soA ?_; intro ⟨x2, c2⟩ g2; dsimp only [List.cons_append, List.nil_append]) | (refine HO_k 12 rfl ?_; refine HO_mv 2 rfl rfl ?_; refine HO_mv 2 rfl rfl ?_; refine HO_call rfl rfl rfl rfl (k3 x2 c2 g2) rfl (trivial) rfl rfl soA ?_; intro ⟨⟨x3, c3⟩, ⟨x4, c4⟩⟩ g3; dsimp only [List.cons_append, List.nil_append]) | exact HO_seg rfl rfl | refine S1 ?_ | (refine S2 ?_; intro _) | (refine S3 ?_; intro _ _) | (refine S4 ?_; intro _ _ _) | (refine HO_g 2 rfl ?_; (first | apply HO_and rfl rfl rfl rfl rfl rfl rfl rfl rfl | apply HO_or rfl rfl rfl rfl rfl rfl rfl rfl rfl)) | refine S5 ?_ | (intro hb; try replace hb := simB hb; try exact kill hb))
    rename_i A' c'
    rw [eM, eL]
    repeat' (first | refine SW ?_ | refine SD ?_ | (refine HO_k 12 rfl ?_; refine HO_callq rfl rfl rfl rfl (hpg _ _) (fun _ _ => rfl) (AllSrc.own 0 rfl rfl trivial) rfl rfl sqA ?_) | (refine HO_k 12 rfl ?_; refine HO_mv 4 rfl rfl ?_; refine HO_mv 4 rfl rfl ?_; refine HO_call rfl rfl rfl rfl (k4 x4 c4 g3.2) rfl (trivial) rfl rfl soA ?_; intro ⟨x5, c5⟩ g5; dsimp only [List.cons_append, List.nil_append]) | exact HO_seg rfl rfl | refine S1 ?_ | (refine S2 ?_; intro _) | (refine S3 ?_; intro _ _) | (refine S4 ?_; intro _ _ _) | (refine HO_g 2 rfl ?_; (first | apply HO_and rfl rfl rfl rfl rfl rfl rfl rfl rfl | apply HO_or rfl rfl rfl rfl rfl rfl rfl rfl rfl)) | refine S5 ?_ | (intro hb; try replace hb := simB hb; try exact kill hb))
    rename_i bp
    refine HC_keeps (rw' := rdP rb x5 c5 s4.1 s4.2 ++ (xP b { x with n := x.n + 1 } ++ [cel bp 43 [.int .u32 a, .int .i64 k]])) permA ?_
    refine HC_loop (α := RlI) (fun z => z.j ≤ cnt ∧ z.y.s.2.length ≤ 1000000000 ∧ z.y.s.2.length ≤ z.y.c ∧ z.y.x.routes.length ≤ 16384 ∧ z.y.x.n = x.n + 1 ∧ Stay x z.y.x ∧ rtA (cnt - z.j) x.t (z.y.x.routes.map RtS.q) a k z.y.s = res)
      (fun z => [(55, .int .i64 z.j), (54, .int .i64 cnt), (8, pt bp), (1, pt rb), (0, pt b)]) (fun z => rdP rb z.y.A z.y.c z.y.s.1 z.y.s.2 ++ (xP b z.y.x ++ [cel bp 43 [.int .u32 a, .int .i64 k]])) (fun z => cnt - z.j) rfl
      ⟨⟨{ x with n := x.n + 1 }, x5, c5, s4⟩, 0⟩ ⟨Nat.zero_le _, by simp only; omega, g5, hx, rfl, ⟨rfl, rfl, rfl⟩, hres⟩ ⟨rfl, rfl, rfl, rfl, rfl, trivial⟩ rfl ?_
    clear hres g5
    intro ⟨⟨y, yA, yc, ys⟩, j⟩ ⟨hj, hs, hyc, hyl, hyn, hst, hinv⟩
    dsimp only [rdP, xP, pt, List.cons_append, List.nil_append] at hj hs hyc hyl hyn hst hinv ⊢
    rcases Nat.lt_or_ge j cnt with hlt | hge
    · have hrt := rroute_t b rb y yA yc ys hs hyc (by omega) a k
      rw [show cnt - j = (cnt - (j + 1)) + 1 by omega] at hinv
      rw [rtA_succ, List.length_map, ← hst.t] at hinv
      cases hm : routeM y.t y.routes.length a k ys with
      | none =>
        simp only [hm] at hrt hinv
        subst hinv
        dsimp only [pt, rdP, xP, List.cons_append, List.nil_append] at hrt
        repeat' (first | refine SW ?_ | refine SD ?_ | (refine HO_k 12 rfl ?_; refine HO_call rfl rfl rfl rfl (hrt) rfl (trivial) rfl rfl soA ?_; intro y' hy'; dsimp only [rdQ, rdP, xP, pt, List.cons_append, List.nil_append]) | exact HO_seg rfl rfl | refine S1 ?_ | (refine S2 ?_; intro _) | (refine S3 ?_; intro _ _) | (refine S4 ?_; intro _ _ _) | (refine HO_g 2 rfl ?_; (first | apply HO_and rfl rfl rfl rfl rfl rfl rfl rfl rfl | apply HO_or rfl rfl rfl rfl rfl rfl rfl rfl rfl)) | refine S5 ?_ | (intro hb; try replace hb := simB hb; try exact kill hb))
        ((first | apply HX_ret | apply HX_retn); (repeat (first | exact Res_nil | apply Res_tmp rfl | apply Res_ce rfl rfl rfl)); unfold RetQ; refine ⟨y', ⟨hy'.1, fun qs s' h => (by cases h)⟩, rfl, permA⟩)
      | some qs =>
        obtain ⟨q, s'⟩ := qs
        simp only [hm] at hrt hinv
        dsimp only [pt, rdP, xP, List.cons_append, List.nil_append] at hrt
        repeat' (first | refine SW ?_ | refine SD ?_ | (refine HO_k 12 rfl ?_; refine HO_call rfl rfl rfl rfl (hrt) rfl (trivial) rfl rfl soA ?_; intro y' hy'; dsimp only [rdQ, rdP, xP, pt, List.cons_append, List.nil_append]) | exact HO_seg rfl rfl | refine S1 ?_ | (refine S2 ?_; intro _) | (refine S3 ?_; intro _ _) | (refine S4 ?_; intro _ _ _) | (refine HO_g 2 rfl ?_; (first | apply HO_and rfl rfl rfl rfl rfl rfl rfl rfl rfl | apply HO_or rfl rfl rfl rfl rfl rfl rfl rfl rfl)) | refine S5 ?_ | (intro hb; try replace hb := simB hb; try exact kill hb))
        obtain ⟨w1, w2, w3⟩ := hy'
        obtain ⟨z1, z2, z3, z4, z5, z6⟩ := w3 q s' rfl
        have hm2 : y.routes.length + 1 ≤ 16384 := by
          unfold routeM at hm
          simp only at hm
          split at hm
          · rename_i hcc
            exact hcc.2.2
          · cases hm
        have hl' : y'.x.routes.length = y.routes.length + 1 := by
          have := congrArg List.length z2
          rw [List.length_map, List.length_append, List.length_map] at this
          exact this
        exact HX_at ⟨y', j + 1⟩ ⟨⟨hlt, by simp only; omega, w1, by simp only; omega, by rw [z6, hyn], ⟨by rw [z3, hst.t], by rw [z4, hst.i], by rw [z5, hst.p]⟩, by simp only; rw [z1, z2, ← hst.t]; exact hinv⟩, by simp only; omega⟩ ⟨rfl, rfl, rfl, rfl, rfl, trivial⟩ rfl
    · obtain rfl : j = cnt := by omega
      rw [Nat.sub_self] at hinv
      have hinv : some (y.routes.map RtS.q, ys) = res := hinv
      subst hinv
      repeat' (first | refine SW ?_ | refine SD ?_ | exact HO_seg rfl rfl | refine S1 ?_ | (refine S2 ?_; intro _) | (refine S3 ?_; intro _ _) | (refine S4 ?_; intro _ _ _) | (refine HO_g 2 rfl ?_; (first | apply HO_and rfl rfl rfl rfl rfl rfl rfl rfl rfl | apply HO_or rfl rfl rfl rfl rfl rfl rfl rfl rfl)) | refine S5 ?_ | (intro hb; try replace hb := simB hb; try exact kill hb))
      ((first | apply HX_ret | apply HX_retn); (repeat (first | exact Res_nil | apply Res_tmp rfl | apply Res_ce rfl rfl rfl)); unfold RetQ; refine ⟨(⟨y, yA, yc, ys⟩ : RdY), ⟨hyc, fun qs s' h => (by simp only [Option.some.injEq, Prod.mk.injEq] at h; exact ⟨h.2, h.1, hyn, hyl, hst⟩)⟩, rfl, permA⟩)
end Go.Proofs.YtdeeokkkcfkbjaaGreat
