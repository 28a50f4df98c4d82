/- Part of a proof of many texts: what the theorem at its end leans on. -/
import Derived.Test.YteeogabkkblkgaaGreatDoorVPeC
import Derived.Test.YteeogabkkblkgaaGreatDoorVPeH
import Derived.Test.YteeogabkkblkgaaGreatDoorVKc
import Derived.Test.YteeogabkkblkgaaGreatDoorVPeQ
import Derived.Test.YteeogabkkblkgaaGreatDoorVPeA
namespace Go.Proofs.YteeogabkkblkgaaGreatDoor
set_option maxHeartbeats 1000000000
set_option linter.unusedVariables false
set_option linter.unusedSimpArgs false
open Go.RowKit
attribute [local irreducible] HC HX HO Tri eP adr
@[reducible] def rquF (q room : Nat) (b : List UInt8) (z : OA) : List SL := [cel q 91 [.slice z.1 b.length z.2, .int .i64 room], ownB z b]
def rquP (q room : Nat) (b : List UInt8) : SL := exP (fun _ : OA => True) (rquF q room b)
theorem rqnew_t (room : Nat) (hr : room ≤ 65536) : Tri Tryz.prog 56 [.int .i64 room] [] [] (fun _ : Nat => True) (fun q => pt q) (fun q => [rquP q room []]) := by
 have h1 : ¬ (room : Int) < 0 := by omega
 have h2 : ¬ (room : Int) > 65536 := by omega
 refine Tri_in Tryz.func56 rfl (fun w0 S0 => ?_)
 repeat' (first | refine SD ?_ | refine SB ?_ | (refine S2 ?_; intro _) | fail)
 rename_i q
 (refine SRt ?_; unfold RetQ; refine ⟨q, trivial, rfl, (Keeps.close (φ := fun _ : OA => True) (f := rquF q room []) (none, 0) trivial (Keeps.pick 0 rfl rfl (Keeps.add (fun w => own_nil w) Keeps.nil)))⟩)
theorem rqput_t (q room : Nat) (b : List UInt8) (hb : b.length ≤ 1000000) (A : Option Addr) (c : Nat) (l : List UInt8) (hl : l.length ≤ 1000000) :
  Tri Tryz.prog 118 [pt q, .slice A l.length c] [arr bE 1 A l] [rquP q room b] (fun _ : Unit => True) (fun _ => .bool (decide (b.length + l.length ≤ room))) (fun _ => [rquP q room (if b.length + l.length ≤ room then b ++ l else b)]) := by
 refine Tri_open (fun z hz => ?_)
 dsimp only [rquF, lca, lna]
 by_cases hk : b.length + l.length ≤ room
 ·rw [if_pos hk, decide_eq_true hk]
  have hkz : ¬ (b.length : Int) + (l.length : Int) > (room : Int) := by omega
  have e1 : 0 + b.length + l.length = (b ++ l).length := by rw [List.length_append]; omega
  have e2 : [] ++ b.map bE ++ l.map bE = (b ++ l).map bE := by rw [List.nil_append, List.map_append]
  refine Tri_in Tryz.func118 rfl (fun w0 S0 => ?_)
  repeat' (first | refine SX ?_ | refine SB ?_ | (refine T2 ?_; intros) | fail)
  rename_i A1 c1 A' c'
  rw [e1, e2]
  (refine SRt ?_; unfold RetQ; refine ⟨(), trivial, rfl, (Keeps.close (φ := fun _ : OA => True) (f := rquF q room (b ++ l)) (A', c') trivial permA)⟩)
 ·rw [if_neg hk, decide_eq_false hk]
  have hkz : (b.length : Int) + (l.length : Int) > (room : Int) := by omega
  refine Tri_in Tryz.func118 rfl (fun w0 S0 => ?_)
  repeat' (first | refine SX ?_ | refine SB ?_ | (refine T2 ?_; intros) | fail)
  (refine SRt ?_; unfold RetQ; refine ⟨(), trivial, rfl, (Keeps.close (φ := fun _ : OA => True) (f := rquF q room b) z trivial permA)⟩)
theorem rqtake_t (q room : Nat) (b : List UInt8) (hb : b.length ≤ 1000000) (n : Int) :
  Tri Tryz.prog 60 [pt q, .int .i64 n] [] [rquP q room b] (fun _ : OA => True) (fun z => .slice z.1 (b.take (tkN n b.length)).length z.2) (fun z => [ownB z (b.take (tkN n b.length)), rquP q room (b.drop (tkN n b.length))]) := by
 refine Tri_open (fun z hz => ?_)
 dsimp only [rquF, lca, lna]
 refine Tri_know (C := b.length ≤ z.2) (fun w h => own_cap 1 rfl h) (fun hc => ?_)
 obtain ⟨k, hk⟩ : ∃ k, tkN n b.length = k := ⟨_, rfl⟩
 have hkl : k ≤ b.length := by
  rw [← hk]
  unfold tkN
  omega
 rw [hk]
 have t1 : (b.take k).length = k := by rw [List.length_take]; omega
 have t2 : (b.drop k).length = b.length - k := List.length_drop
 by_cases h0 : n < 0
 ·obtain rfl : k = 0 := by unfold tkN at hk; omega
  have hz0 : ¬ (0 : Int) > (b.length : Int) := by omega
  refine Tri_in Tryz.func60 rfl (fun w0 S0 => ?_)
  repeat' (first | refine SD ?_ | (refine HO_k 11 rfl ?_; refine HO_app (k := 0) (k2 := 2) (l2 := (b.take 0).map bE) rfl rfl rfl rfl rfl rfl rfl rfl ⟨_, rfl, fun _ S w h => (fun S w (h : (ownB z b).p S w) => arr_raw S w (arr_take 0 S w (own_byte S w h))) S w h⟩ lenA WfL.map rfl rfl lenA lenA rfl rfl rfl soA ?_; intro _ _) | (refine HO_k 11 rfl ?_; refine HO_app (k := 0) (k2 := 3) (l2 := (b.drop 0).map bE) rfl rfl rfl rfl rfl rfl rfl rfl ⟨_, rfl, fun _ S w h => (fun S w (h : (ownB z b).p S w) => arr_raw S w (arr_drop z.2 0 (fun e => by omega) S w (own_byte S w h))) S w h⟩ lenA WfL.map rfl rfl lenA lenA rfl rfl rfl soA ?_; intro _ _) | refine SB ?_ | (refine S2 ?_; intro _) | fail)
  rename_i bb A1 c1 bb2 A' c'
  have f1 : 0 + Int.toNat (0) = (b.take 0).length := by rw [t1]; simp
  have f2 : 0 + (Int.toNat ((b.length : Nat) : Int) - Int.toNat (0)) = (b.drop 0).length := by rw [t2]; simp
  rw [f1, f2]
  simp only [List.nil_append]
  (refine SRt ?_; unfold RetQ; refine ⟨(A1, c1), trivial, rfl, (Keeps.pick 1 rfl rfl (Keeps.close (φ := fun _ : OA => True) (f := rquF q room (b.drop 0)) (A', c') trivial permA))⟩)
 ·by_cases h2 : n > (b.length : Int)
  ·obtain rfl : k = b.length := by unfold tkN at hk; omega
   refine Tri_in Tryz.func60 rfl (fun w0 S0 => ?_)
   repeat' (first | refine SD ?_ | (refine HO_k 11 rfl ?_; refine HO_app (k := 0) (k2 := 2) (l2 := (b.take b.length).map bE) rfl rfl rfl rfl rfl rfl rfl rfl ⟨_, rfl, fun _ S w h => (fun S w (h : (ownB z b).p S w) => arr_raw S w (arr_take b.length S w (own_byte S w h))) S w h⟩ lenA WfL.map rfl rfl lenA lenA rfl rfl rfl soA ?_; intro _ _) | (refine HO_k 11 rfl ?_; refine HO_app (k := 0) (k2 := 3) (l2 := (b.drop b.length).map bE) rfl rfl rfl rfl rfl rfl rfl rfl ⟨_, rfl, fun _ S w h => (fun S w (h : (ownB z b).p S w) => arr_raw S w (arr_drop z.2 b.length (fun e => by omega) S w (own_byte S w h))) S w h⟩ lenA WfL.map rfl rfl lenA lenA rfl rfl rfl soA ?_; intro _ _) | refine SB ?_ | (refine S2 ?_; intro _) | fail)
   rename_i bb A1 c1 bb2 A' c'
   have f1 : 0 + Int.toNat ((b.length : Nat)) = (b.take b.length).length := by rw [t1]; simp
   have f2 : 0 + (Int.toNat ((b.length : Nat) : Int) - Int.toNat ((b.length : Nat))) = (b.drop b.length).length := by rw [t2]; simp
   rw [f1, f2]
   simp only [List.nil_append]
   (refine SRt ?_; unfold RetQ; refine ⟨(A1, c1), trivial, rfl, (Keeps.pick 1 rfl rfl (Keeps.close (φ := fun _ : OA => True) (f := rquF q room (b.drop b.length)) (A', c') trivial permA))⟩)
  ·obtain rfl : n = (k : Int) := by unfold tkN at hk; omega
   refine Tri_in Tryz.func60 rfl (fun w0 S0 => ?_)
   repeat' (first | refine SD ?_ | (refine HO_k 11 rfl ?_; refine HO_app (k := 0) (k2 := 2) (l2 := (b.take k).map bE) rfl rfl rfl rfl rfl rfl rfl rfl ⟨_, rfl, fun _ S w h => (fun S w (h : (ownB z b).p S w) => arr_raw S w (arr_take k S w (own_byte S w h))) S w h⟩ lenA WfL.map rfl rfl lenA lenA rfl rfl rfl soA ?_; intro _ _) | (refine HO_k 11 rfl ?_; refine HO_app (k := 0) (k2 := 3) (l2 := (b.drop k).map bE) rfl rfl rfl rfl rfl rfl rfl rfl ⟨_, rfl, fun _ S w h => (fun S w (h : (ownB z b).p S w) => arr_raw S w (arr_drop z.2 k (fun e => by omega) S w (own_byte S w h))) S w h⟩ lenA WfL.map rfl rfl lenA lenA rfl rfl rfl soA ?_; intro _ _) | refine SB ?_ | (refine S2 ?_; intro _) | fail)
   rename_i bb A1 c1 bb2 A' c'
   have f1 : 0 + Int.toNat ((k : Nat)) = (b.take k).length := by rw [t1]; simp
   have f2 : 0 + (Int.toNat ((b.length : Nat) : Int) - Int.toNat ((k : Nat))) = (b.drop k).length := by rw [t2]; simp
   rw [f1, f2]
   simp only [List.nil_append]
   (refine SRt ?_; unfold RetQ; refine ⟨(A1, c1), trivial, rfl, (Keeps.pick 1 rfl rfl (Keeps.close (φ := fun _ : OA => True) (f := rquF q room (b.drop k)) (A', c') trivial permA))⟩)
structure TmEq (l tm : TmM) : Prop where
 lk : ∀ k, lkL k l = lkL k tm
 len : l.length = tm.length
 nd : (l.map (·.1)).Nodup
section
variable {κ ν : Type} [DecidableEq κ]
theorem lk_app (j k : κ) (v : ν) : ∀ l : List (κ × ν), lkL j (l ++ [(k, v)]) = match lkL j l with | some x => some x | none => if j = k then some v else none
 | [] => by simp [lkL]
 | x :: l => by
  rw [List.cons_append]
  unfold lkL
  by_cases h : j = x.1
  ·rw [if_pos h, if_pos h]
  ·rw [if_neg h, if_neg h]
   exact lk_app j k v l
theorem ix_at {k : κ} : ∀ {l : List (κ × ν)} {j : Nat} {v : ν}, l[j]? = some (k, v) → (∀ q, q < j → ∀ x, l[q]? = some x → x.1 ≠ k) → ixL k l = some (j, v)
 | [], j, v, h, _ => by simp at h
 | x :: l, 0, v, h, _ => by
  simp at h
  subst h
  unfold ixL
  rw [if_pos rfl]
 | x :: l, j + 1, v, h, hn => by
  have h0 := hn 0 (Nat.succ_pos j) x rfl
  have ih := ix_at (l := l) (j := j) (v := v) (by simpa using h) (fun q hq y hy => hn (q + 1) (by omega) y (by simpa using hy))
  unfold ixL
  rw [if_neg (fun e => h0 e.symm), ih]
  rfl
theorem ix_no {k : κ} : ∀ {l : List (κ × ν)}, (∀ q : Nat, ∀ x, l[q]? = some x → x.1 ≠ k) → ixL k l = none
 | [], _ => rfl
 | x :: l, hn => by
  have h0 := hn 0 x rfl
  have ih := ix_no (l := l) (fun q y hy => hn (q + 1) y (by simpa using hy))
  unfold ixL
  rw [if_neg (fun e => h0 e.symm), ih]
  rfl
theorem ix_erase {k : κ} : ∀ {l : List (κ × ν)} {j : Nat} {v : ν}, ixL k l = some (j, v) → l.eraseIdx j = dlL k l ∧ j < l.length
 | [], j, v, h => by cases h
 | x :: l, j, v, h => by
  unfold ixL at h
  unfold dlL
  by_cases hk : k = x.1
  ·rw [if_pos hk] at h
   injection h with h
   injection h with h1 h2
   subst h1
   rw [if_pos hk]
   exact ⟨rfl, by simp⟩
  ·rw [if_neg hk] at h
   cases hi : ixL k l with
   | none => rw [hi] at h; cases h
   | some y =>
    rw [hi] at h
    obtain ⟨j', v'⟩ := y
    have ih := ix_erase (l := l) hi
    simp at h
    obtain ⟨rfl, rfl⟩ := h
    rw [if_neg hk, ← ih.1]
    exact ⟨rfl, by simp; exact ih.2⟩
end
theorem TmEq.set_ {l tm : TmM} (h : TmEq l tm) (hn : (tm.map (·.1)).Nodup) (k : TmK) (t : Int) : TmEq (dlL k l ++ [(k, t)]) (stL k t tm) := by
 refine ⟨fun j => ?_, ?_, ?_⟩
 ·rw [lk_app, lk_dl k j l h.nd, lk_st, h.lk]
  by_cases hj : j = k
  ·rw [if_pos hj, if_pos hj]
   simp [hj]
  ·rw [if_neg hj, if_neg hj]
   cases lkL j tm <;> simp [hj]
 ·rw [List.length_append, dl_len, st_len, h.lk, h.len]
  split
  ·rfl
  ·rename_i h2
   have : 0 < tm.length := by
    cases tm with
    | nil => exact absurd rfl h2
    | cons x l => simp
   simp
   omega
 ·rw [List.map_append, List.nodup_append]
  refine ⟨dl_nodup h.nd, by simp, fun a ha b hb => ?_⟩
  simp at hb
  intro e
  rw [hb] at e
  have := lk_dl k k l h.nd
  rw [if_pos rfl, lk_in] at this
  exact this (e ▸ ha)
theorem TmEq.del {l tm : TmM} (h : TmEq l tm) (hn : (tm.map (·.1)).Nodup) (k : TmK) : TmEq (dlL k l) (dlL k tm) := by
 refine ⟨fun j => ?_, ?_, dl_nodup h.nd⟩
 ·rw [lk_dl k j l h.nd, lk_dl k j tm hn, h.lk]
 ·rw [dl_len, dl_len, h.lk, h.len]
def oneE (x : TmK × Int) : List Value := [.int .i64 x.1.p, .int .i64 x.1.k, .int .i64 x.2]
instance : EncOk oneE 3 := ⟨fun _ => ⟨rfl, rfl⟩⟩
@[reducible] def rtmF (u : Nat) (y : TmM × OA) : List SL := [cel u 81 [.slice y.2.1 y.1.length y.2.2], own idE 131 3 y.2.1 y.1.length y.2.2 (y.1.map oneE)]
def rtmP (u : Nat) (tm : TmM) : SL := exP (fun y : TmM × OA => TmEq y.1 tm) (rtmF u)
def fiT (k : TmK) (l : TmM) : Int := match ixL k l with
 | none => -1
 | some y => (y.1 : Nat)
theorem rfind_t (u : Nat) (k : TmK) (A : Option Addr) (c : Nat) (l : TmM) (hl : l.length ≤ 1000000) :
  Tri Tryz.prog 62 [pt u, tkV k] [cel u 81 [.slice A l.length c], arr oneE 3 A l] [] (fun _ : Unit => True) (fun _ => .int .i64 (fiT k l)) (fun _ => []) := by
 dsimp only [tkV, tkC]
 refine Tri_in Tryz.func62 rfl (fun w0 S0 => ?_)
 repeat' (first | refine SX ?_ | refine SB ?_ | (refine S2 ?_; intro _) | fail)
 rename_i b0
 refine HC_loop (α := Nat) (fun j => j ≤ l.length ∧ ∀ q, q < j → ∀ x, l[q]? = some x → x.1 ≠ k) (fun j => [(5, .int .i64 j), (3, .pointer (some ⟨b0, 0, none⟩)), (0, pt u)]) (fun _ => [cel b0 93 [.int .i64 k.p, .int .i64 k.k]]) (fun j => l.length - j) rfl 0 ⟨Nat.zero_le _, fun q hq => by omega⟩ ⟨rfl, rfl, rfl, trivial⟩ rfl ?_
 intro j ⟨hj, hn⟩
 rcases Nat.lt_or_ge j l.length with hlt | hge
 ·have hltz : (j : Int) < (l.length : Int) := by omega
  obtain ⟨a, ha⟩ : ∃ a, l[j]? = some a := ⟨l[j], List.getElem?_eq_getElem hlt⟩
  have ha2 := map_at (enc := oneE) ha
  unfold oneE at ha2
  have ek : (decide (a.1.p = k.p) && decide (a.1.k = k.k)) = decide (a.1 = k) := by
   obtain ⟨⟨a1, a2⟩, a3⟩ := a
   obtain ⟨k1, k2⟩ := k
   by_cases g1 : a1 = k1 <;> by_cases g2 : a2 = k2 <;> simp [g1, g2]
  by_cases hk : a.1 = k
  ·rw [decide_eq_true hk] at ek
   have hf : fiT k l = (j : Int) := by
    unfold fiT
    rw [ix_at (v := a.2) (by rw [ha, ← hk]) hn]
   rw [hf]
   repeat' (first | refine SX ?_ | (with_reducible refine HO_rw (congrArg Value.bool ek) ?_) | refine SB ?_ | (refine S2 ?_; intro _) | fail)
   (refine SRt ?_; refine RU ?_)
   rfl
  ·rw [decide_eq_false hk] at ek
   repeat' (first | refine SX ?_ | (with_reducible refine HO_rw (congrArg Value.bool ek) ?_) | refine SB ?_ | (refine S2 ?_; intro _) | fail)
   exact HX_at (j + 1) ⟨⟨hlt, fun q hq x hx => by
    rcases Nat.lt_or_ge q j with h | h
    ·exact hn q h x hx
    ·obtain rfl : q = j := by omega
     rw [ha] at hx
     injection hx with hx
     rw [← hx]
     exact hk⟩, by omega⟩ ⟨rfl, rfl, rfl, trivial⟩ rfl
 ·obtain rfl : j = l.length := by omega
  have hltz : ¬ ((l.length : Int) < (l.length : Int)) := by omega
  have hf : fiT k l = -1 := by
   unfold fiT
   rw [ix_no fun q x hx => hn q (List.getElem?_eq_some_iff.1 hx).1 x hx]
  rw [hf]
  repeat' (first | refine SX ?_ | refine SB ?_ | (refine S2 ?_; intro _) | fail)
  (refine SRt ?_; refine RU ?_)
  rfl
theorem own_one {A : Option Addr} {n c : Nat} {l : TmM} : Ent (own idE 131 3 A n c (l.map oneE)) (arr oneE 3 A l) := own_e
theorem rdrop_t (u : Nat) (l : TmM) (z : OA) (i : Nat) (hi : i < l.length) (hl : l.length ≤ 1000000) :
  Tri Tryz.prog 216 [pt u, .int .i64 i] [] (rtmF u (l, z)) (fun _ : OA => True) (fun _ => .tuple #[]) (fun y => rtmF u (l.eraseIdx i, y)) := by
 dsimp only [rtmF]
 refine Tri_know (C := l.length ≤ z.2) (fun w h => own_cap 1 rfl h) (fun hc => ?_)
 have t1 : (l.take i).length = i := by rw [List.length_take]; omega
 have t2 : (l.drop (i + 1)).length = l.length - (i + 1) := List.length_drop
 refine Tri_in Tryz.func216 rfl (fun w0 S0 => ?_)
 repeat' (first | refine SW ?_ | (refine HC_lex rfl rfl (by decide +kernel) rfl rfl ?_; refine HO_names (l' := [0, 2, 3, 4, 5, 6, 7, 9, 10, 11, 12, 13, 14, 15, 1, 8, 16, 17, 18, 19]) (by decide +kernel) ?_) | (refine HO_k 11 rfl ?_; refine HO_app (k := 0) (k2 := 2) (l2 := (l.take i).map oneE) rfl rfl rfl rfl rfl rfl rfl rfl ⟨_, rfl, fun _ S w h => (fun S w h => arr_raw S w (arr_take i S w (own_one S w h))) S w h⟩ lenA WfL.map rfl rfl lenA lenA rfl rfl rfl soA ?_; intro _ _) | (refine HO_k 11 rfl ?_; refine HO_app (k := 0) (k2 := 2) (l2 := (l.drop (i + 1)).map oneE) rfl rfl rfl rfl rfl rfl rfl rfl ⟨_, rfl, fun _ S w h => (fun S w h => arr_raw S w (arr_drop z.2 (i + 1) (fun e => by omega) S w (own_one S w h))) S w h⟩ lenA WfL.map rfl rfl lenA lenA rfl rfl rfl soA ?_; intro _ _) | refine S1 ?_ | (refine S2 ?_; intro _) | fail)
 rename_i bb A1 c1 A' c'
 have f1 : 0 + Int.toNat (i : Nat) + (Int.toNat (l.length : Nat) - Int.toNat ((i : Nat) + 1)) = (l.eraseIdx i).length := by
  rw [List.length_eraseIdx_of_lt hi]
  omega
 have f2 : [] ++ (l.take i).map oneE ++ (l.drop (i + 1)).map oneE = (l.eraseIdx i).map oneE := by
  rw [List.nil_append, ← List.map_append, List.eraseIdx_eq_take_drop_succ]
 rw [f1, f2]
 (refine SRt ?_; unfold RetQ; refine ⟨(A', c'), trivial, rfl, permA⟩)
theorem fiT_cases (k : TmK) (l : TmM) : (lkL k l = none ∧ fiT k l = -1 ∧ dlL k l = l) ∨ ∃ (j : Nat) (v : Int), lkL k l = some v ∧ fiT k l = (j : Int) ∧ j < l.length ∧ l.eraseIdx j = dlL k l ∧ l[j]? = some (k, v) := by
 unfold fiT
 cases hx : ixL k l with
 | none => exact .inl ⟨by rw [lkL_ix, hx]; rfl, rfl, dlL_none k l hx⟩
 | some y =>
  obtain ⟨j, v⟩ := y
  have h := ix_erase hx
  refine .inr ⟨j, v, by rw [lkL_ix, hx]; rfl, rfl, h.2, h.1, ?_⟩
  have key : ∀ (l : TmM) (j : Nat), ixL k l = some (j, v) → l[j]? = some (k, v) := fun l => by
   induction l with
   | nil => intro j h; cases h
   | cons x l ih =>
    intro j h
    unfold ixL at h
    by_cases hk : k = x.1
    ·rw [if_pos hk] at h
     injection h with h
     injection h with h1 h2
     subst h1
     rw [hk, ← h2]
     rfl
    ·rw [if_neg hk] at h
     cases hi : ixL k l with
     | none => rw [hi] at h; cases h
     | some y =>
      rw [hi] at h
      obtain ⟨j', v'⟩ := y
      simp at h
      obtain ⟨rfl, rfl⟩ := h
      simpa using ih j' hi
  exact key l j hx
theorem rtset_t (u : Nat) (tm : TmM) (k : TmK) (t : Int) (htl : tm.length ≤ 100000) (hn : (tm.map (·.1)).Nodup) :
  Tri Tryz.prog 197 [pt u, tkV k, .int .i64 t] [] [rtmP u tm] (fun _ : Unit => True) (fun _ => .int .i64 (tmSet tm k t).2) (fun _ => [rtmP u (tmSet tm k t).1]) := by
 refine Tri_open (fun y hy => ?_)
 obtain ⟨l, z⟩ := y
 have hy : TmEq l tm := hy
 have hl : l.length = tm.length := hy.len
 have c1 := rfind_t u k z.1 z.2 l (by omega)
 dsimp only [rtmF, tkV, tkC, lca, lna] at c1 ⊢
 unfold tmSet
 rcases fiT_cases k l with ⟨g1, g2, g3⟩ | ⟨j, v, g1, g2, g3, g4, g5⟩
 ·rw [g2] at c1
  have g1' : lkL k tm = none := by rw [← hy.lk]; exact g1
  by_cases h1 : t < 0
  ·rw [if_pos (.inl h1)]
   refine Tri_in Tryz.func197 rfl (fun w0 S0 => ?_)
   repeat' (first | refine SK ?_ | refine SD ?_ | (refine KC ?_; refine HO_callq rfl rfl rfl rfl (c1) (fun _ _ => rfl) ((AllSrc.at_ 1 rfl (AllSrc.via 2 rfl own_one trivial))) rfl rfl sqA ?_) | refine SB ?_ | (refine T2 ?_; intros) | fail)
   (refine SRt ?_; unfold RetQ; refine ⟨(), trivial, rfl, (Keeps.close (φ := fun y : TmM × OA => TmEq y.1 tm) (f := rtmF u) (l, z) hy permA)⟩)
  by_cases h2 : 9007199254740991 < t
  ·rw [if_pos (.inr h2)]
   have h2z : t > 9007199254740991 := h2
   refine Tri_in Tryz.func197 rfl (fun w0 S0 => ?_)
   repeat' (first | refine SK ?_ | refine SD ?_ | (refine KC ?_; refine HO_callq rfl rfl rfl rfl (c1) (fun _ _ => rfl) ((AllSrc.at_ 1 rfl (AllSrc.via 2 rfl own_one trivial))) rfl rfl sqA ?_) | refine SB ?_ | (refine T2 ?_; intros) | fail)
   (refine SRt ?_; unfold RetQ; refine ⟨(), trivial, rfl, (Keeps.close (φ := fun y : TmM × OA => TmEq y.1 tm) (f := rtmF u) (l, z) hy permA)⟩)
  rw [if_neg (by omega)]
  have h2z : ¬ t > 9007199254740991 := h2
  by_cases h3 : 1024 ≤ tm.length
  ·rw [if_pos ⟨g1', h3⟩]
   have h3z : (l.length : Int) ≥ 1024 := by omega
   refine Tri_in Tryz.func197 rfl (fun w0 S0 => ?_)
   repeat' (first | refine SK ?_ | refine SD ?_ | (refine KC ?_; refine HO_callq rfl rfl rfl rfl (c1) (fun _ _ => rfl) ((AllSrc.at_ 1 rfl (AllSrc.via 2 rfl own_one trivial))) rfl rfl sqA ?_) | refine SB ?_ | (refine T2 ?_; intros) | fail)
   (refine SRt ?_; unfold RetQ; refine ⟨(), trivial, rfl, (Keeps.close (φ := fun y : TmM × OA => TmEq y.1 tm) (f := rtmF u) (l, z) hy permA)⟩)
  ·rw [if_neg (fun h => h3 h.2)]
   have h3z : ¬ (l.length : Int) ≥ 1024 := by omega
   have hq := hy.set_ hn k t
   rw [g3] at hq
   have e1 : l.length + 1 = (l ++ [(k, t)]).length := by simp
   have e2 : l.map oneE ++ [[Value.int .i64 k.p, .int .i64 k.k, .int .i64 t]] = (l ++ [(k, t)]).map oneE := by rw [List.map_append]; rfl
   refine Tri_in Tryz.func197 rfl (fun w0 S0 => ?_)
   repeat' (first | refine SK ?_ | refine SD ?_ | (refine KC ?_; refine HO_callq rfl rfl rfl rfl (c1) (fun _ _ => rfl) ((AllSrc.at_ 1 rfl (AllSrc.via 2 rfl own_one trivial))) rfl rfl sqA ?_) | refine SB ?_ | (refine T2 ?_; intros) | fail)
   rename_i A' c'
   rw [e1, e2]
   (refine SRt ?_; unfold RetQ; refine ⟨(), trivial, rfl, (Keeps.close (φ := fun y : TmM × OA => TmEq y.1 (stL k t tm)) (f := rtmF u) (l ++ [(k, t)], (A', c')) hq permA)⟩)
 ·rw [g2] at c1
  have g1' : ¬ lkL k tm = none := by rw [← hy.lk, g1]; simp
  have c2 := rdrop_t u l z j g3 (by omega)
  have hjz : ¬ (j : Int) < 0 := by omega
  have hjz2 : (j : Int) ≥ 0 := by omega
  by_cases h1 : t < 0
  ·rw [if_pos (.inl h1)]
   refine Tri_in Tryz.func197 rfl (fun w0 S0 => ?_)
   repeat' (first | refine SK ?_ | refine SD ?_ | (refine KC ?_; refine HO_callq rfl rfl rfl rfl (c1) (fun _ _ => rfl) ((AllSrc.at_ 1 rfl (AllSrc.via 2 rfl own_one trivial))) rfl rfl sqA ?_) | refine SB ?_ | (refine T2 ?_; intros) | fail)
   (refine SRt ?_; unfold RetQ; refine ⟨(), trivial, rfl, (Keeps.close (φ := fun y : TmM × OA => TmEq y.1 tm) (f := rtmF u) (l, z) hy permA)⟩)
  by_cases h2 : 9007199254740991 < t
  ·rw [if_pos (.inr h2)]
   have h2z : t > 9007199254740991 := h2
   refine Tri_in Tryz.func197 rfl (fun w0 S0 => ?_)
   repeat' (first | refine SK ?_ | refine SD ?_ | (refine KC ?_; refine HO_callq rfl rfl rfl rfl (c1) (fun _ _ => rfl) ((AllSrc.at_ 1 rfl (AllSrc.via 2 rfl own_one trivial))) rfl rfl sqA ?_) | refine SB ?_ | (refine T2 ?_; intros) | fail)
   (refine SRt ?_; unfold RetQ; refine ⟨(), trivial, rfl, (Keeps.close (φ := fun y : TmM × OA => TmEq y.1 tm) (f := rtmF u) (l, z) hy permA)⟩)
  rw [if_neg (by omega), if_neg (fun h => g1' h.1)]
  have h2z : ¬ t > 9007199254740991 := h2
  have hq := hy.set_ hn k t
  rw [← g4] at hq
  have hel : (l.eraseIdx j).length ≤ 1000000 := by rw [List.length_eraseIdx_of_lt g3]; omega
  obtain ⟨M, hM⟩ : ∃ M, l.eraseIdx j = M := ⟨_, rfl⟩
  rw [hM] at c2 hq hel
  have e1 : M.length + 1 = (M ++ [(k, t)]).length := by simp
  have e2 : M.map oneE ++ [[Value.int .i64 k.p, .int .i64 k.k, .int .i64 t]] = (M ++ [(k, t)]).map oneE := by rw [List.map_append]; rfl
  dsimp only [rtmF] at c2
  refine Tri_in Tryz.func197 rfl (fun w0 S0 => ?_)
  repeat' (first | refine SK ?_ | refine SD ?_ | (refine KC ?_; refine HO_callq rfl rfl rfl rfl (c1) (fun _ _ => rfl) ((AllSrc.at_ 1 rfl (AllSrc.via 2 rfl own_one trivial))) rfl rfl sqA ?_) | (refine KC ?_; refine HO_callP rfl rfl rfl rfl (c2) findA (trivial) rfl rfl soA ?_; intro ⟨yA, yc⟩ hw; dsimp only [lca, lna]) | refine SB ?_ | (refine T2 ?_; intros) | fail)
  rename_i A' c'
  rw [e1, e2]
  (refine SRt ?_; unfold RetQ; refine ⟨(), trivial, rfl, (Keeps.close (φ := fun y : TmM × OA => TmEq y.1 (stL k t tm)) (f := rtmF u) (M ++ [(k, t)], (A', c')) hq permA)⟩)
theorem rtstop_t (u : Nat) (tm : TmM) (k : TmK) (htl : tm.length ≤ 100000) (hn : (tm.map (·.1)).Nodup) :
  Tri Tryz.prog 196 [pt u, tkV k] [] [rtmP u tm] (fun _ : Unit => True) (fun _ => .bool (tmAt tm k).2) (fun _ => [rtmP u (dlL k tm)]) := by
 refine Tri_open (fun y hy => ?_)
 obtain ⟨l, z⟩ := y
 have hy : TmEq l tm := hy
 have hl : l.length = tm.length := hy.len
 have c1 := rfind_t u k z.1 z.2 l (by omega)
 have hq := hy.del hn k
 dsimp only [rtmF, tkV, tkC, lca, lna] at c1 ⊢
 unfold tmAt
 rw [← hy.lk]
 rcases fiT_cases k l with ⟨g1, g2, g3⟩ | ⟨j, v, g1, g2, g3, g4, g5⟩
 ·rw [g2] at c1
  rw [g1]
  rw [g3] at hq
  refine Tri_in Tryz.func196 rfl (fun w0 S0 => ?_)
  repeat' (first | refine SD ?_ | (refine KC ?_; refine HO_callq rfl rfl rfl rfl (c1) (fun _ _ => rfl) ((AllSrc.at_ 1 rfl (AllSrc.via 2 rfl own_one trivial))) rfl rfl sqA ?_) | refine SB ?_ | (refine S2 ?_; intro _) | fail)
  (refine SRt ?_; unfold RetQ; refine ⟨(), trivial, rfl, (Keeps.close (φ := fun y : TmM × OA => TmEq y.1 (dlL k tm)) (f := rtmF u) (l, z) hq permA)⟩)
 ·rw [g2] at c1
  rw [g1]
  have c2 := rdrop_t u l z j g3 (by omega)
  have hjz : ¬ (j : Int) < 0 := by omega
  rw [g4] at c2
  dsimp only [rtmF] at c2
  refine Tri_in Tryz.func196 rfl (fun w0 S0 => ?_)
  repeat' (first | refine SD ?_ | (refine KC ?_; refine HO_callq rfl rfl rfl rfl (c1) (fun _ _ => rfl) ((AllSrc.at_ 1 rfl (AllSrc.via 2 rfl own_one trivial))) rfl rfl sqA ?_) | (refine KC ?_; refine HO_callP rfl rfl rfl rfl (c2) findA (trivial) rfl rfl soA ?_; intro ⟨yA, yc⟩ hw; dsimp only [lca, lna]) | refine SB ?_ | (refine S2 ?_; intro _) | fail)
  (refine SRt ?_; unfold RetQ; refine ⟨(), trivial, rfl, (Keeps.close (φ := fun y : TmM × OA => TmEq y.1 (dlL k tm)) (f := rtmF u) (dlL k l, (yA, yc)) hq permA)⟩)
theorem rtat_t (u : Nat) (tm : TmM) (k : TmK) (htl : tm.length ≤ 100000) :
  Tri Tryz.prog 33 [pt u, tkV k] [] [rtmP u tm] (fun _ : Unit => True) (fun _ => .tuple #[.int .i64 (tmAt tm k).1, .bool (tmAt tm k).2]) (fun _ => [rtmP u tm]) := by
 refine Tri_open (fun y hy => ?_)
 obtain ⟨l, z⟩ := y
 have hy : TmEq l tm := hy
 have hl : l.length = tm.length := hy.len
 have c1 := rfind_t u k z.1 z.2 l (by omega)
 dsimp only [rtmF, tkV, tkC, lca, lna] at c1 ⊢
 unfold tmAt
 rw [← hy.lk]
 rcases fiT_cases k l with ⟨g1, g2, g3⟩ | ⟨j, v, g1, g2, g3, g4, g5⟩
 ·rw [g2] at c1
  rw [g1]
  refine Tri_in Tryz.func33 rfl (fun w0 S0 => ?_)
  repeat' (first | refine SD ?_ | (refine KC ?_; refine HO_callq rfl rfl rfl rfl (c1) (fun _ _ => rfl) ((AllSrc.at_ 1 rfl (AllSrc.via 2 rfl own_one trivial))) rfl rfl sqA ?_) | refine SB ?_ | (refine S2 ?_; intro _) | fail)
  (refine SRt ?_; unfold RetQ; refine ⟨(), trivial, rfl, (Keeps.close (φ := fun y : TmM × OA => TmEq y.1 tm) (f := rtmF u) (l, z) hy permA)⟩)
 ·rw [g2] at c1
  rw [g1]
  have hjz : ¬ (j : Int) < 0 := by omega
  have g6 : (l.map oneE)[j]? = some [Value.int .i64 k.p, .int .i64 k.k, .int .i64 v] := map_at (enc := oneE) g5
  have g7 : l.length = (l.map oneE).length := (List.length_map _).symm
  refine Tri_in Tryz.func33 rfl (fun w0 S0 => ?_)
  repeat' (first | refine SD ?_ | (refine KC ?_; refine HO_callq rfl rfl rfl rfl (c1) (fun _ _ => rfl) ((AllSrc.at_ 1 rfl (AllSrc.via 2 rfl own_one trivial))) rfl rfl sqA ?_) | refine SB ?_ | (refine S2 ?_; intro _) | fail)
  (refine SRt ?_; unfold RetQ; refine ⟨(), trivial, rfl, (Keeps.close (φ := fun y : TmM × OA => TmEq y.1 tm) (f := rtmF u) (l, z) hy permA)⟩)
end Go.Proofs.YteeogabkkblkgaaGreatDoor
