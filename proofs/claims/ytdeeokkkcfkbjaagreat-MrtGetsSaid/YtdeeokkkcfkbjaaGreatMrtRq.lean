/- The reference's dump of bytes -/
import Derived.Test.YtdeeokkkcfkbjaaGreatMrtW
import Derived.Test.YtdeeokkkcfkbjaaGreatMrtRp
import Derived.Test.YtdeeokkkcfkbjaaGreatAttRX
import Derived.Test.YtdeeokkkcfkbjaaGreatMrtRp
namespace Go.Proofs.YtdeeokkkcfkbjaaGreat
set_option linter.unusedVariables false
set_option linter.unusedSimpArgs false
open Go.RowKit
attribute [local irreducible] HC HX HO Tri eP adr

attribute [local irreducible] routeM

theorem rnumG_t (b : Nat) (A : Option Addr) (c : Nat) (s : RS) (w : Nat) (hw : 1 ≤ w ∧ w ≤ 4) (hb : s.2.length ≤ 100000) (hc : s.2.length ≤ c) :
    Tri Tryz.prog 44 [pt b, .int .i64 w] [] (rqP b A c s.1 s.2) (fun x : OA => (rS w s).2.length ≤ x.2) (fun _ => .int .i64 (rV w s)) (fun x => rqP b x.1 x.2 (rS w s).1 (rS w s).2) := by
  obtain ⟨bad, l⟩ := s
  unfold rS rV rok
  cases bad
  · rcases Nat.lt_or_ge l.length w with h | h
    · have hd : decide (w ≤ l.length) = false := decide_eq_false (by omega)
      simp only [hd, Bool.and_false, Bool.false_eq_true, if_false]
      exact rnumS_t b A c l w hw h hc
    · have hd : decide (w ≤ l.length) = true := decide_eq_true h
      simp only [hd, Bool.and_true, Bool.not_false, if_true]
      exact rnumL_t b A c l w hw h hb hc
  · simp only [Bool.not_true, Bool.false_and, Bool.false_eq_true, if_false]
    exact rnumB_t b A c l w hw hb hc
theorem rbytesG_t (b : Nat) (A : Option Addr) (c : Nat) (s : RS) (n : Nat) (hb : s.2.length ≤ 100000) (hc : s.2.length ≤ c) :
    Tri Tryz.prog 45 [pt b, .int .i64 n] [] (rqP b A c s.1 s.2) (fun x : OA × OA => (rB n s).length ≤ x.1.2 ∧ (rS n s).2.length ≤ x.2.2) (fun x => .slice x.1.1 (rB n s).length x.1.2)
      (fun x => ownB x.1 (rB n s) :: rqP b x.2.1 x.2.2 (rS n s).1 (rS n s).2) := by
  obtain ⟨bad, l⟩ := s
  unfold rS rB rok
  cases bad
  · rcases Nat.lt_or_ge l.length n with h | h
    · have hd : decide (n ≤ l.length) = false := decide_eq_false (by omega)
      simp only [hd, Bool.and_false, Bool.false_eq_true, if_false]
      exact rbytesS_t b A c l n h hb hc
    · have hd : decide (n ≤ l.length) = true := decide_eq_true h
      simp only [hd, Bool.and_true, Bool.not_false, if_true]
      exact rbytesL_t b A c l n h hb hc
  · simp only [Bool.not_true, Bool.false_and, Bool.false_eq_true, if_false]
    exact rbytesB_t b A c l n hb hc
theorem qleftF_t (b : Nat) (A : Option Addr) (n c : Nat) : Tri Tryz.prog 43 [pt b] [cel b TQ [.slice A n c, .bool false]] [] (fun _ : Unit => True) (fun _ => .int .i64 n) (fun _ => []) := rleft_t b A n c false
/-- a dump under way: its cells, and what they show -/
@[reducible] def xQ (b : Nat) (x : RdS) : List SL := [cel b 26 [.int .i64 x.t, .int .u32 x.id, .slice x.pA x.peers.length x.pc, .slice x.rA x.routes.length x.rc], ownP (x.pA, x.pc) x.peers, ownR (x.rA, x.rc) x.routes, inn (rtPs x.routes)]
def rqQ (b rb : Nat) (y : RdY) : List SL := rqP rb y.A y.c y.s.1 y.s.2 ++ xQ b y.x
def peDone : Option (Nat × List PeS × RS) → Bool
  | none => false
  | some (_, _, s) => !s.1 && decide (s.2 = [])
theorem nil_dec {l : List UInt8} : decide (l = []) = decide ((l.length : Int) = 0) := by
  cases l with
  | nil => rfl
  | cons a l =>
    rw [decide_eq_false (by simp), decide_eq_false (by simp only [List.length_cons]; omega)]
set_option maxHeartbeats 16000000 in
set_option maxRecDepth 100000 in
theorem qpeers_t (b rb : Nat) (x : RdS) (A : Option Addr) (c : Nat) (s : RS) (hb : s.2.length ≤ 100000) (hc : s.2.length ≤ c) (hx : x.peers.length ≤ 1000) :
    Tri Tryz.prog 46 [pt b, pt rb] [] (rqP rb A c s.1 s.2 ++ xQ b x) (fun y : RdY => ∀ id ps s', peersM x.peers s = some (id, ps, s') → y.x.id = id ∧ y.x.peers = ps ∧ y.x.t = x.t ∧ y.x.routes = x.routes)
      (fun _ => .bool (peDone (peersM x.peers s))) (rqQ b rb) := by
  have a1 := rS_len 4 s
  have a2 := rS_len 2 (rS 4 s)
  have a3 := rS_len 2 (rS 2 (rS 4 s))
  have v1 := rV_lt 4 s
  have v2 := rV_lt 2 (rS 4 s)
  have v3 := rV_lt 2 (rS 2 (rS 4 s))
  have h1 := rnumG_t rb A c s 4 (by decide) hb hc
  have h2 := fun A c hc => rnumG_t rb A c (rS 4 s) 2 (by decide) (by omega) hc
  have h3 := fun A c hc => rnumG_t rb A c (rS 2 (rS 4 s)) 2 (by decide) (by omega) hc
  unfold peersM
  obtain ⟨s1, e1⟩ : ∃ q, rS 4 s = q := ⟨_, rfl⟩
  obtain ⟨i1, f1⟩ : ∃ q, rV 4 s = q := ⟨_, rfl⟩
  simp only [e1, f1] at a1 a2 a3 v1 v2 v3 h1 h2 h3 ⊢
  obtain ⟨s2, e2⟩ : ∃ q, rS 2 s1 = q := ⟨_, rfl⟩
  obtain ⟨i2, f2⟩ : ∃ q, rV 2 s1 = q := ⟨_, rfl⟩
  simp only [e2, f2] at a2 a3 v2 v3 h2 h3 ⊢
  obtain ⟨s3, e3⟩ : ∃ q, rS 2 s2 = q := ⟨_, rfl⟩
  obtain ⟨i3, f3⟩ : ∃ q, rV 2 s2 = q := ⟨_, rfl⟩
  simp only [e3, f3] at a3 v3 h3 ⊢
  by_cases hbad : i2 ≠ 0 ∨ 16 < i3
  · rw [if_pos hbad]
    by_cases hb2 : i2 = 0
    · subst hb2
      refine Tri_of (N := Tryz.f46.ntmps) (c := bodyOf Tryz.f46) Tryz.func46 rfl rfl rfl rfl (fun w0 S0 => ?_)
      dsimp only [pt, rqP, xQ, List.cons_append, List.nil_append] at h1 h2 h3 ⊢
      repeat' (first | refine SW ?_ | refine SD ?_ | (refine HO_k 12 rfl ?_; refine HO_call rfl rfl rfl rfl (h1) rfl (trivial) rfl rfl soA ?_; intro ⟨x1, c1⟩ g1; dsimp only [List.cons_append, List.nil_append]) | (refine HO_k 12 rfl ?_; refine HO_call rfl rfl rfl rfl (h2 x1 c1 g1) rfl (trivial) rfl rfl soA ?_; intro ⟨x2, c2⟩ g2; dsimp only [List.cons_append, List.nil_append]) | (refine HO_k 12 rfl ?_; refine HO_call rfl rfl rfl rfl (h3 x2 c2 g2) rfl (trivial) rfl rfl soA ?_; intro ⟨x3, c3⟩ g3; dsimp only [List.cons_append, List.nil_append]) | exact HO_seg rfl rfl | refine S1 ?_ | (refine S2 ?_; intro _) | (refine S3 ?_; intro _ _) | (refine S4 ?_; intro _ _ _) | (refine HO_g 2 rfl ?_; (first | apply HO_and rfl rfl rfl rfl rfl rfl rfl rfl rfl | apply HO_or rfl rfl rfl rfl rfl rfl rfl rfl rfl)) | refine S5 ?_ | (intro hb; try replace hb := simB hb; try exact kill hb))
      ((first | apply HX_ret | apply HX_retn); (repeat (first | exact Res_nil | apply Res_tmp rfl | apply Res_ce rfl rfl rfl)); unfold RetQ; refine ⟨(⟨{ x with id := i1 }, x3, c3, s3⟩ : RdY), fun id ps s' h => (by cases h), rfl, Keeps.refl⟩)
    · refine Tri_of (N := Tryz.f46.ntmps) (c := bodyOf Tryz.f46) Tryz.func46 rfl rfl rfl rfl (fun w0 S0 => ?_)
      dsimp only [pt, rqP, xQ, List.cons_append, List.nil_append] at h1 h2 h3 ⊢
      repeat' (first | refine SW ?_ | refine SD ?_ | (refine HO_k 12 rfl ?_; refine HO_call rfl rfl rfl rfl (h1) rfl (trivial) rfl rfl soA ?_; intro ⟨x1, c1⟩ g1; dsimp only [List.cons_append, List.nil_append]) | (refine HO_k 12 rfl ?_; refine HO_call rfl rfl rfl rfl (h2 x1 c1 g1) rfl (trivial) rfl rfl soA ?_; intro ⟨x2, c2⟩ g2; dsimp only [List.cons_append, List.nil_append]) | (refine HO_k 12 rfl ?_; refine HO_call rfl rfl rfl rfl (h3 x2 c2 g2) rfl (trivial) rfl rfl soA ?_; intro ⟨x3, c3⟩ g3; dsimp only [List.cons_append, List.nil_append]) | exact HO_seg rfl rfl | refine S1 ?_ | (refine S2 ?_; intro _) | (refine S3 ?_; intro _ _) | (refine S4 ?_; intro _ _ _) | (refine HO_g 2 rfl ?_; (first | apply HO_and rfl rfl rfl rfl rfl rfl rfl rfl rfl | apply HO_or rfl rfl rfl rfl rfl rfl rfl rfl rfl)) | refine S5 ?_ | (intro hb; try replace hb := simB hb; try exact kill hb))
      ((first | apply HX_ret | apply HX_retn); (repeat (first | exact Res_nil | apply Res_tmp rfl | apply Res_ce rfl rfl rfl)); unfold RetQ; refine ⟨(⟨{ x with id := i1 }, x3, c3, s3⟩ : RdY), fun id ps s' h => (by cases h), rfl, Keeps.refl⟩)
  rw [if_neg hbad]
  have hi2 : i2 = 0 := by omega
  subst hi2
  obtain ⟨res, hres⟩ : ∃ r, peL i3 x.peers s3 = r := ⟨_, rfl⟩
  rw [hres]
  refine Tri_of (N := Tryz.f46.ntmps) (c := bodyOf Tryz.f46) Tryz.func46 rfl rfl rfl rfl (fun w0 S0 => ?_)
  dsimp only [pt, rqP, xQ, List.cons_append, List.nil_append] at h1 h2 h3 ⊢
  repeat' (first | refine SW ?_ | refine SD ?_ | (refine HO_k 12 rfl ?_; refine HO_call rfl rfl rfl rfl (h1) rfl (trivial) rfl rfl soA ?_; intro ⟨x1, c1⟩ g1; dsimp only [List.cons_append, List.nil_append]) | (refine HO_k 12 rfl ?_; refine HO_call rfl rfl rfl rfl (h2 x1 c1 g1) rfl (trivial) rfl rfl soA ?_; intro ⟨x2, c2⟩ g2; dsimp only [List.cons_append, List.nil_append]) | (refine HO_k 12 rfl ?_; refine HO_call rfl rfl rfl rfl (h3 x2 c2 g2) rfl (trivial) rfl rfl soA ?_; intro ⟨x3, c3⟩ g3; dsimp only [List.cons_append, List.nil_append]) | exact HO_seg rfl rfl | refine S1 ?_ | (refine S2 ?_; intro _) | (refine S3 ?_; intro _ _) | (refine S4 ?_; intro _ _ _) | (refine HO_g 2 rfl ?_; (first | apply HO_and rfl rfl rfl rfl rfl rfl rfl rfl rfl | apply HO_or rfl rfl rfl rfl rfl rfl rfl rfl rfl)) | refine S5 ?_ | (intro hb; try replace hb := simB hb; try exact kill hb))
  refine HC_loop (α := PrI) (fun y => y.j ≤ i3 ∧ y.s.2.length ≤ 100000 ∧ y.s.2.length ≤ y.c ∧ y.peers.length ≤ 1000 + y.j ∧ peL (i3 - y.j) y.peers y.s = res) (fun y => [(7, .int .i64 y.j), (6, .int .i64 i3), (1, pt rb), (0, pt b)])
    (fun y => rqP rb y.A y.c y.s.1 y.s.2 ++ xQ b { x with id := i1, pA := y.pA, pc := y.pc, peers := y.peers }) (fun y => i3 - y.j) rfl ⟨x3, c3, s3, x.pA, x.pc, x.peers, 0⟩ ⟨Nat.zero_le _, by simp only; omega, g3, hx, hres⟩ ⟨rfl, rfl, rfl, rfl, trivial⟩ rfl ?_
  clear hres g3
  intro ⟨A, c, s, pA, pc, peers, j⟩ ⟨hj, hs, hc, hp, hinv⟩
  dsimp only [rqP, xQ, pt, List.cons_append, List.nil_append] at hj hs hc hp hinv ⊢
  rcases Nat.lt_or_ge j i3 with hlt | hge
  · have b1 := rS_len 1 s
    have b2 := rS_len 4 (rS 1 s)
    have b3 := rS_len 4 (rS 4 (rS 1 s))
    have b4 := rS_len 4 (rS 4 (rS 4 (rS 1 s)))
    have w2 := rV_lt 4 (rS 1 s)
    have w3 := rV_lt 4 (rS 4 (rS 1 s))
    have w4 := rV_lt 4 (rS 4 (rS 4 (rS 1 s)))
    have k1 := rnumG_t rb A c s 1 (by decide) hs hc
    have k2 := fun A c hc => rnumG_t rb A c (rS 1 s) 4 (by decide) (by omega) hc
    have k3 := fun A c hc => rnumG_t rb A c (rS 4 (rS 1 s)) 4 (by decide) (by omega) hc
    have k4 := fun A c hc => rnumG_t rb A c (rS 4 (rS 4 (rS 1 s))) 4 (by decide) (by omega) hc
    rw [show i3 - j = (i3 - (j + 1)) + 1 by omega] at hinv
    simp only [peL] at hinv
    obtain ⟨q1, d1⟩ : ∃ q, rS 1 s = q := ⟨_, rfl⟩
    obtain ⟨m1, n1⟩ : ∃ q, rV 1 s = q := ⟨_, rfl⟩
    simp only [d1, n1] at b1 b2 b3 b4 w2 w3 w4 k1 k2 k3 k4 hinv
    by_cases h2 : m1 = 2
    · rw [if_pos h2] at hinv
      subst h2
      obtain ⟨q2, d2⟩ : ∃ q, rS 4 q1 = q := ⟨_, rfl⟩
      obtain ⟨m2, n2⟩ : ∃ q, rV 4 q1 = q := ⟨_, rfl⟩
      simp only [d2, n2] at b2 b3 b4 w2 w3 w4 k2 k3 k4 hinv
      obtain ⟨q3, d3⟩ : ∃ q, rS 4 q2 = q := ⟨_, rfl⟩
      obtain ⟨m3, n3⟩ : ∃ q, rV 4 q2 = q := ⟨_, rfl⟩
      simp only [d3, n3] at b3 b4 w3 w4 k3 k4 hinv
      obtain ⟨q4, d4⟩ : ∃ q, rS 4 q3 = q := ⟨_, rfl⟩
      obtain ⟨m4, n4⟩ : ∃ q, rV 4 q3 = q := ⟨_, rfl⟩
      simp only [d4, n4] at b4 w4 k4 hinv
      dsimp only [pt, rqP] at k1 k2 k3 k4
      repeat' (first | refine SW ?_ | refine SD ?_ | (refine HO_k 12 rfl ?_; refine HO_call rfl rfl rfl rfl (k1) rfl (trivial) rfl rfl soA ?_; intro ⟨x1, c1⟩ g1; dsimp only [List.cons_append, List.nil_append]) | (refine HO_k 12 rfl ?_; refine HO_call rfl rfl rfl rfl (k2 x1 c1 g1) rfl (trivial) rfl rfl soA ?_; intro ⟨x2, c2⟩ g2; dsimp only [List.cons_append, List.nil_append]) | (refine HO_k 12 rfl ?_; refine HO_call rfl rfl rfl rfl (k3 x2 c2 g2) rfl (trivial) rfl rfl soA ?_; intro ⟨x3, c3⟩ g3; dsimp only [List.cons_append, List.nil_append]) | (refine HO_k 12 rfl ?_; refine HO_call rfl rfl rfl rfl (k4 x3 c3 g3) rfl (trivial) rfl rfl soA ?_; intro ⟨x4, c4⟩ g4; dsimp only [List.cons_append, List.nil_append]) | exact HO_seg rfl rfl | refine S1 ?_ | (refine S2 ?_; intro _) | (refine S3 ?_; intro _ _) | (refine S4 ?_; intro _ _ _) | (refine HO_g 2 rfl ?_; (first | apply HO_and rfl rfl rfl rfl rfl rfl rfl rfl rfl | apply HO_or rfl rfl rfl rfl rfl rfl rfl rfl rfl)) | refine S5 ?_ | (intro hb; try replace hb := simB hb; try exact kill hb))
      rename_i b9 A' c'
      have eL : peers.length + 1 = (peers ++ [(⟨m2, m3, m4⟩ : PeS)]).length := by simp
      have eM : List.map PeS.e peers ++ [[Value.int .u32 (m2 : Int), Value.int .u32 (m3 : Int), Value.int .i64 (m4 : Int)]] = List.map PeS.e (peers ++ [(⟨m2, m3, m4⟩ : PeS)]) := by rw [List.map_append]; rfl
      rw [eL, eM]
      refine HX_keeps (rw' := rqP rb x4 c4 q4.1 q4.2 ++ xQ b { x with id := i1, pA := A', pc := c', peers := peers ++ [(⟨m2, m3, m4⟩ : PeS)] }) permA ?_
      exact HX_at ⟨x4, c4, q4, A', c', peers ++ [(⟨m2, m3, m4⟩ : PeS)], j + 1⟩ ⟨⟨hlt, by simp only; omega, g4, by simp only [List.length_append, List.length_cons, List.length_nil]; omega, hinv⟩, by simp only; omega⟩ ⟨rfl, rfl, rfl, rfl, trivial⟩ rfl
    · rw [if_neg h2] at hinv
      subst hinv
      dsimp only [pt, rqP] at k1
      repeat' (first | refine SW ?_ | refine SD ?_ | (refine HO_k 12 rfl ?_; refine HO_call rfl rfl rfl rfl (k1) rfl (trivial) rfl rfl soA ?_; intro ⟨x1, c1⟩ g1; dsimp only [List.cons_append, List.nil_append]) | exact HO_seg rfl rfl | refine S1 ?_ | (refine S2 ?_; intro _) | (refine S3 ?_; intro _ _) | (refine S4 ?_; intro _ _ _) | (refine HO_g 2 rfl ?_; (first | apply HO_and rfl rfl rfl rfl rfl rfl rfl rfl rfl | apply HO_or rfl rfl rfl rfl rfl rfl rfl rfl rfl)) | refine S5 ?_ | (intro hb; try replace hb := simB hb; try exact kill hb))
      ((first | apply HX_ret | apply HX_retn); (repeat (first | exact Res_nil | apply Res_tmp rfl | apply Res_ce rfl rfl rfl)); unfold RetQ; refine ⟨(⟨{ x with id := i1, pA := pA, pc := pc, peers := peers }, x1, c1, q1⟩ : RdY), fun id ps s' h => (by cases h), rfl, Keeps.refl⟩)
  · obtain rfl : j = i3 := by omega
    rw [Nat.sub_self] at hinv
    have hinv : some (peers, s) = res := hinv
    subst hinv
    obtain ⟨bad, s⟩ := s
    have hl := qleftF_t rb A s.length c
    cases bad
    · have ed : decide ((s.length : Int) = 0) = peDone (some (i1, peers, (false, s))) := nil_dec.symm
      repeat' (first | refine SW ?_ | refine SD ?_ | (refine HO_k 12 rfl ?_; refine HO_callq rfl rfl rfl rfl (hl) (fun _ _ => rfl) (srcsA) rfl rfl sqA ?_) | (with_reducible refine HO_rw (congrArg Value.bool ed) ?_) | exact HO_seg rfl rfl | refine S1 ?_ | (refine S2 ?_; intro _) | (refine S3 ?_; intro _ _) | (refine S4 ?_; intro _ _ _) | (refine HO_g 2 rfl ?_; (first | apply HO_and rfl rfl rfl rfl rfl rfl rfl rfl rfl | apply HO_or rfl rfl rfl rfl rfl rfl rfl rfl rfl)) | refine S5 ?_ | (intro hb; try replace hb := simB hb; try exact kill hb))
      ((first | apply HX_ret | apply HX_retn); (repeat (first | exact Res_nil | apply Res_tmp rfl | apply Res_ce rfl rfl rfl)); unfold RetQ; refine ⟨(⟨{ x with id := i1, pA := pA, pc := pc, peers := peers }, A, c, (false, s)⟩ : RdY), fun id ps s' h => (by simp only [Option.some.injEq, Prod.mk.injEq] at h; obtain ⟨rfl, rfl, rfl⟩ := h; exact ⟨rfl, rfl, rfl, rfl⟩), rfl, Keeps.refl⟩)
    · repeat' (first | refine SW ?_ | refine SD ?_ | exact HO_seg rfl rfl | refine S1 ?_ | (refine S2 ?_; intro _) | (refine S3 ?_; intro _ _) | (refine S4 ?_; intro _ _ _) | (refine HO_g 2 rfl ?_; (first | apply HO_and rfl rfl rfl rfl rfl rfl rfl rfl rfl | apply HO_or rfl rfl rfl rfl rfl rfl rfl rfl rfl)) | refine S5 ?_ | (intro hb; try replace hb := simB hb; try exact kill hb))
      ((first | apply HX_ret | apply HX_retn); (repeat (first | exact Res_nil | apply Res_tmp rfl | apply Res_ce rfl rfl rfl)); unfold RetQ; refine ⟨(⟨{ x with id := i1, pA := pA, pc := pc, peers := peers }, A, c, (true, s)⟩ : RdY), fun id ps s' h => (by simp only [Option.some.injEq, Prod.mk.injEq] at h; obtain ⟨rfl, rfl, rfl⟩ := h; exact ⟨rfl, rfl, rfl, rfl⟩), rfl, Keeps.refl⟩)
theorem rok_bad {w : Nat} {s : RS} (h : s.1 = true) : rok w s = false := by unfold rok; rw [h]; rfl
theorem rS_bad {w : Nat} {s : RS} (h : s.1 = true) : rS w s = (true, s.2) := by unfold rS; rw [rok_bad h]; rfl
theorem rV_bad {w : Nat} {s : RS} (h : s.1 = true) : rV w s = 0 := by unfold rV; rw [rok_bad h]; rfl
theorem rB_bad {w : Nat} {s : RS} (h : s.1 = true) : rB w s = [] := by unfold rB; rw [rok_bad h]; rfl
theorem rS_no {w : Nat} {s : RS} (h : (rS w s).1 = true) : rok w s = false := by
  unfold rS at h
  cases hr : rok w s
  · rfl
  · rw [hr, if_pos rfl] at h
    cases h
theorem rV_no {w : Nat} {s : RS} (h : (rS w s).1 = true) : rV w s = 0 := by unfold rV; rw [rS_no h]; rfl
theorem rB_no {w : Nat} {s : RS} (h : (rS w s).1 = true) : rB w s = [] := by unfold rB; rw [rS_no h]; rfl
theorem rok_in {w : Nat} {l : List UInt8} (h : w ≤ l.length) : rok w (false, l) = true := by unfold rok; simp [h]
theorem rok_out {w : Nat} {l : List UInt8} (h : l.length < w) : rok w (false, l) = false := by unfold rok; simp; omega
theorem routesM_bad (t nrec : Int) (acc : List RtQ) (s : RS) (h : (rS 4 s).1 = true) : routesM t nrec acc s = none := by
  unfold routesM
  simp only
  rw [rV_bad h, rS_bad (w := 1) h, rB_bad (s := (true, (rS 4 s).2)) rfl, rS_bad (s := (true, (rS 4 s).2)) rfl, rV_bad (s := (true, (rS 4 s).2)) rfl]
  have : pfG [UInt8.ofNat 0] = some (0, 0) := by decide +kernel
  rw [this]
  simp only
  exact if_neg fun h => h.2 rfl
/-- routes of one prefix, behind their number -/
def rtsM (t : Int) (acc : List RtQ) (l : List UInt8) : Option (List RtQ × RS) := match pfG l with
  | none => none
  | some (a, k) => if rV 2 (rS (1 + (k + 7) / 8) (false, l)) ≠ 0 then rtA (rV 2 (rS (1 + (k + 7) / 8) (false, l))) t acc a k (rS 2 (rS (1 + (k + 7) / 8) (false, l))) else none
theorem routesM_ok (t nrec : Int) (acc : List RtQ) (s : RS) (l : List UInt8) (h : rS 4 s = (false, l)) : routesM t nrec acc s = if (rV 4 s : Int) = nrec then rtsM t acc l else none := by
  unfold routesM rtsM
  simp only
  rw [h]
  by_cases hn : (rV 4 s : Int) = nrec
  rotate_left
  · rw [if_neg hn]
    split
    · rfl
    · exact if_neg fun h => hn h.1
  rw [if_pos hn]
  simp only [hn, true_and]
  cases l with
  | nil =>
    have h1 : rS 1 (false, []) = (true, []) := by unfold rS; rw [rok_out (by simp)]; rfl
    have h2 : rV 1 (false, []) = 0 := by unfold rV; rw [rok_out (by simp)]; rfl
    rw [h1, h2, rB_bad (s := (true, [])) rfl, rS_bad (s := (true, [])) rfl, rV_bad (s := (true, [])) rfl]
    have : pfG [UInt8.ofNat 0] = some (0, 0) := by decide +kernel
    rw [this]
    simp only
    rw [if_neg (fun h => h rfl)]
    rfl
  | cons c r =>
    have h1 : rS 1 (false, c :: r) = (false, r) := by unfold rS; rw [rok_in (by simp)]; rfl
    have h2 : rV 1 (false, c :: r) = c.toNat := by
      unfold rV
      rw [rok_in (by simp), if_pos rfl]
      show ge [c] = c.toNat
      simp [ge]
    have hc : UInt8.ofNat c.toNat = c := by simp
    rw [h1, h2, hc]
    by_cases hw : (c.toNat + 7) / 8 ≤ r.length
    · have h3 : rB ((c.toNat + 7) / 8) (false, r) = r.take ((c.toNat + 7) / 8) := by unfold rB; rw [rok_in hw]; rfl
      have h4 : rS ((c.toNat + 7) / 8) (false, r) = (false, r.drop ((c.toNat + 7) / 8)) := by unfold rS; rw [rok_in hw]; rfl
      have hl : (r.take ((c.toNat + 7) / 8)).length = (c.toNat + 7) / 8 := by rw [List.length_take]; omega
      have hp : pfG (c :: r.take ((c.toNat + 7) / 8)) = pfG (c :: r) := by
        simp only [pfG, hl, List.take_take, Nat.min_self]
        by_cases h32 : c.toNat ≤ 32
        · rw [if_pos ⟨h32, Nat.le_refl _⟩, if_pos ⟨h32, hw⟩]
        · rw [if_neg (fun h => h32 h.1), if_neg (fun h => h32 h.1)]
      rw [h3, h4, hp]
      cases hpf : pfG (c :: r) with
      | none => rfl
      | some ak =>
        obtain ⟨a, k⟩ := ak
        have hk : k = c.toNat := by
          simp only [pfG] at hpf
          split at hpf
          · injection hpf with e
            injection e with e1 e2
            exact e2.symm
          · cases hpf
        subst hk
        have h5 : rS (1 + (c.toNat + 7) / 8) (false, c :: r) = (false, r.drop ((c.toNat + 7) / 8)) := by
          unfold rS
          rw [rok_in (by simp only [List.length_cons]; omega), if_pos rfl, Nat.add_comm 1]
          rfl
        simp only
        rw [h5]
    · have h3 : rB ((c.toNat + 7) / 8) (false, r) = [] := by unfold rB; rw [rok_out (by omega)]; rfl
      have hp : pfG [c] = none := if_neg (fun h => by have := h.2; simp only [List.length_nil] at this; omega)
      have hp2 : pfG (c :: r) = none := if_neg (fun h => hw h.2)
      rw [h3, hp, hp2]
theorem getG_nil : (getG 4 []).2 ≠ 1 := by decide +kernel
def rtDone : Option (List RtQ × RS) → Bool
  | none => false
  | some (_, s) => !s.1 && decide (s.2 = [])
set_option maxHeartbeats 64000000 in
set_option maxRecDepth 100000 in
theorem qroutes_t (b rb : Nat) (x : RdS) (A : Option Addr) (c : Nat) (s : RS) (n : Int) (hb : s.2.length ≤ 100000) (hc : s.2.length ≤ c) (hx : x.routes.length ≤ 16384) :
    Tri Tryz.prog 47 [pt b, pt rb, .int .i64 n] [] (rqP rb A c s.1 s.2 ++ xQ b x)
      (fun y : RdY => ∀ qs s', routesM x.t n (x.routes.map RtS.q) s = some (qs, s') → y.x.routes.map RtS.q = qs ∧ y.x.routes.length ≤ 16384 ∧ Stay x y.x)
      (fun _ => .bool (rtDone (routesM x.t n (x.routes.map RtS.q) s))) (rqQ b rb) := by
  have k1 := rnumG_t rb A c s 4 (by decide) hb hc
  have a1 := rS_len 4 s
  obtain ⟨⟨bad1, l⟩, e1⟩ : ∃ q, rS 4 s = q := ⟨_, rfl⟩
  have hbadM := routesM_bad x.t n (x.routes.map RtS.q) s
  have hokM := routesM_ok x.t n (x.routes.map RtS.q) s l
  obtain ⟨i1, f1⟩ : ∃ q, rV 4 s = q := ⟨_, rfl⟩
  rw [f1] at hokM
  simp only [e1, f1] at a1 k1 hbadM hokM
  cases bad1
  rotate_left
  · rw [hbadM rfl]
    by_cases q1 : (i1 : Int) = n
    all_goals
      refine Tri_of (N := Tryz.f47.ntmps) (c := bodyOf Tryz.f47) Tryz.func47 rfl rfl rfl rfl (fun w0 S0 => ?_)
      dsimp only [pt, rqP, xQ, List.cons_append, List.nil_append] at k1 ⊢
      repeat' (first | refine SW ?_ | ((refine HO_g 2 rfl ?_); (refine HO_skip rfl rfl rfl rfl rdA ?_)) | refine SD ?_ | (refine HO_k 12 rfl ?_; refine HO_call rfl rfl rfl rfl (k1) rfl (trivial) rfl rfl soA ?_; intro ⟨x1, c1⟩ g1; dsimp only [List.cons_append, List.nil_append]) | exact HO_seg rfl rfl | refine S1 ?_ | (refine S2 ?_; intro _) | (refine S3 ?_; intro _ _) | (refine S4 ?_; intro _ _ _) | (refine HO_g 2 rfl ?_; (first | apply HO_and rfl rfl rfl rfl rfl rfl rfl rfl rfl | apply HO_or rfl rfl rfl rfl rfl rfl rfl rfl rfl)) | refine S5 ?_ | (intro hb; try replace hb := simB hb; try exact kill hb))
      ((first | apply HX_ret | apply HX_retn); (repeat (first | exact Res_nil | apply Res_tmp rfl | apply Res_ce rfl rfl rfl)); unfold RetQ; refine ⟨(⟨x, x1, c1, (true, l)⟩ : RdY), fun qs s' h => (by cases h), rfl, permA⟩)
  have hokM := hokM rfl
  clear hbadM
  by_cases q1 : (i1 : Int) = n
  rotate_left
  · rw [if_neg q1] at hokM
    rw [hokM]
    refine Tri_of (N := Tryz.f47.ntmps) (c := bodyOf Tryz.f47) Tryz.func47 rfl rfl rfl rfl (fun w0 S0 => ?_)
    dsimp only [pt, rqP, xQ, List.cons_append, List.nil_append] at k1 ⊢
    repeat' (first | refine SW ?_ | ((refine HO_g 2 rfl ?_); (refine HO_skip rfl rfl rfl rfl rdA ?_)) | refine SD ?_ | (refine HO_k 12 rfl ?_; refine HO_call rfl rfl rfl rfl (k1) rfl (trivial) rfl rfl soA ?_; intro ⟨x1, c1⟩ g1; dsimp only [List.cons_append, List.nil_append]) | exact HO_seg rfl rfl | refine S1 ?_ | (refine S2 ?_; intro _) | (refine S3 ?_; intro _ _) | (refine S4 ?_; intro _ _ _) | (refine HO_g 2 rfl ?_; (first | apply HO_and rfl rfl rfl rfl rfl rfl rfl rfl rfl | apply HO_or rfl rfl rfl rfl rfl rfl rfl rfl rfl)) | refine S5 ?_ | (intro hb; try replace hb := simB hb; try exact kill hb))
    ((first | apply HX_ret | apply HX_retn); (repeat (first | exact Res_nil | apply Res_tmp rfl | apply Res_ce rfl rfl rfl)); unfold RetQ; refine ⟨(⟨x, x1, c1, (false, l)⟩ : RdY), fun qs s' h => (by cases h), rfl, permA⟩)
  rw [if_pos q1] at hokM
  rw [hokM]
  unfold rtsM
  have hl5 : l.length ≤ 100000 := by omega
  have hpg := fun A c hc => rpget_t A c l (by omega) hc
  cases hpf : pfG l with
  | none =>
    rw [hpf] at hpg
    dsimp only [pgV, pfV] at hpg
    have k2 := fun A c hc => rbytesG_t rb A c (false, l) 0 (by simp only; omega) hc
    have r0 : rS 0 (false, l) = (false, l) := by unfold rS; rw [rok_in (by omega)]; rfl
    have b0 : rB 0 (false, l) = [] := by unfold rB; rw [rok_in (by omega)]; rfl
    rw [r0, b0] at k2
    have k3 := fun A c hc => rnumG_t rb A c (false, l) 2 (by decide) (by simp only; omega) hc
    obtain ⟨s4, e4⟩ : ∃ q, rS 2 (false, l) = q := ⟨_, rfl⟩
    obtain ⟨cnt, f4⟩ : ∃ q, rV 2 (false, l) = q := ⟨_, rfl⟩
    simp only [e4, f4] at k3
    simp only
    refine Tri_of (N := Tryz.f47.ntmps) (c := bodyOf Tryz.f47) Tryz.func47 rfl rfl rfl rfl (fun w0 S0 => ?_)
    dsimp only [pt, rqP, xQ, List.cons_append, List.nil_append] at k1 k2 k3 hpg ⊢
    repeat' (first | refine SW ?_ | ((refine HO_g 2 rfl ?_); (refine HO_skip rfl rfl rfl rfl rdA ?_)) | refine SD ?_ | (refine HO_k 12 rfl ?_; refine HO_call rfl rfl rfl rfl (k1) rfl (trivial) rfl rfl soA ?_; intro ⟨x1, c1⟩ g1; dsimp only [List.cons_append, List.nil_append]) | (refine HO_k 12 rfl ?_; refine HO_callq rfl rfl rfl rfl (hpg x1 c1 g1) (fun _ _ => rfl) (srcsA) rfl rfl sqA ?_) | (refine HO_k 12 rfl ?_; refine HO_mv 2 rfl rfl ?_; refine HO_mv 2 rfl rfl ?_; refine HO_call rfl rfl rfl rfl (k2 x1 c1 g1) rfl (trivial) rfl rfl soA ?_; intro ⟨⟨x3, c3⟩, ⟨x4, c4⟩⟩ g3; dsimp only [List.cons_append, List.nil_append]) | (refine HO_k 12 rfl ?_; refine HO_mv 2 rfl rfl ?_; refine HO_mv 2 rfl rfl ?_; refine HO_call rfl rfl rfl rfl (k3 x4 c4 g3.2) rfl (trivial) rfl rfl soA ?_; intro ⟨x5, c5⟩ g5; dsimp only [List.cons_append, List.nil_append]) | exact HO_seg rfl rfl | refine S1 ?_ | (refine S2 ?_; intro _) | (refine S3 ?_; intro _ _) | (refine S4 ?_; intro _ _ _) | (refine HO_g 2 rfl ?_; (first | apply HO_and rfl rfl rfl rfl rfl rfl rfl rfl rfl | apply HO_or rfl rfl rfl rfl rfl rfl rfl rfl rfl)) | refine S5 ?_ | (intro hb; try replace hb := simB hb; try exact kill hb))
    ((first | apply HX_ret | apply HX_retn); (repeat (first | exact Res_nil | apply Res_tmp rfl | apply Res_ce rfl rfl rfl)); unfold RetQ; refine ⟨(⟨x, x5, c5, s4⟩ : RdY), fun qs s' h => (by cases h), rfl, permA⟩)
  | some ak =>
    obtain ⟨a, k⟩ := ak
    rw [hpf] at hpg
    dsimp only [pgV, pfV] at hpg
    simp only
    obtain ⟨w, hw⟩ : ∃ w, 1 + (k + 7) / 8 = w := ⟨_, rfl⟩
    rw [hw] at hpg ⊢
    have k2 := fun A c hc => rbytesG_t rb A c (false, l) w (by simp only; omega) hc
    have a2 := rS_len w (false, l)
    have hbl := rB_len w (false, l)
    simp only at a2 hbl
    obtain ⟨s3, e3⟩ : ∃ q, rS w (false, l) = q := ⟨_, rfl⟩
    obtain ⟨bs, f3⟩ : ∃ q, rB w (false, l) = q := ⟨_, rfl⟩
    simp only [e3, f3] at k2 a2 hbl ⊢
    have k3 := fun A c hc => rnumG_t rb A c s3 2 (by decide) (by omega) hc
    have a3 := rS_len 2 s3
    have v3 := rV_lt 2 s3
    have hno := rV_no (w := 2) (s := s3)
    obtain ⟨⟨bad4, l4⟩, e4⟩ : ∃ q, rS 2 s3 = q := ⟨_, rfl⟩
    obtain ⟨cnt, f4⟩ : ∃ q, rV 2 s3 = q := ⟨_, rfl⟩
    simp only [e4, f4] at k3 a3 v3 hno ⊢
    by_cases q2 : cnt = 0
    · rw [if_neg (fun h => h q2)]
      subst q2
      cases bad4
      all_goals
        refine Tri_of (N := Tryz.f47.ntmps) (c := bodyOf Tryz.f47) Tryz.func47 rfl rfl rfl rfl (fun w0 S0 => ?_)
        dsimp only [pt, rqP, xQ, List.cons_append, List.nil_append] at k1 k2 k3 hpg ⊢
        repeat' (first | refine SW ?_ | ((refine HO_g 2 rfl ?_); (refine HO_skip rfl rfl rfl rfl rdA ?_)) | refine SD ?_ | (refine HO_k 12 rfl ?_; refine HO_call rfl rfl rfl rfl (k1) rfl (trivial) rfl rfl soA ?_; intro ⟨x1, c1⟩ g1; dsimp only [List.cons_append, List.nil_append]) | (refine HO_k 12 rfl ?_; refine HO_callq rfl rfl rfl rfl (hpg x1 c1 g1) (fun _ _ => rfl) (srcsA) rfl rfl sqA ?_) | (refine HO_k 12 rfl ?_; refine HO_mv 2 rfl rfl ?_; refine HO_mv 2 rfl rfl ?_; refine HO_call rfl rfl rfl rfl (k2 x1 c1 g1) rfl (trivial) rfl rfl soA ?_; intro ⟨⟨x3, c3⟩, ⟨x4, c4⟩⟩ g3; dsimp only [List.cons_append, List.nil_append]) | (refine HO_k 12 rfl ?_; refine HO_mv 2 rfl rfl ?_; refine HO_mv 2 rfl rfl ?_; refine HO_call rfl rfl rfl rfl (k3 x4 c4 g3.2) rfl (trivial) rfl rfl soA ?_; intro ⟨x5, c5⟩ g5; dsimp only [List.cons_append, List.nil_append]) | exact HO_seg rfl rfl | refine S1 ?_ | (refine S2 ?_; intro _) | (refine S3 ?_; intro _ _) | (refine S4 ?_; intro _ _ _) | (refine HO_g 2 rfl ?_; (first | apply HO_and rfl rfl rfl rfl rfl rfl rfl rfl rfl | apply HO_or rfl rfl rfl rfl rfl rfl rfl rfl rfl)) | refine S5 ?_ | (intro hb; try replace hb := simB hb; try exact kill hb))
      · ((first | apply HX_ret | apply HX_retn); (repeat (first | exact Res_nil | apply Res_tmp rfl | apply Res_ce rfl rfl rfl)); unfold RetQ; refine ⟨(⟨x, x5, c5, (false, l4)⟩ : RdY), fun qs s' h => (by cases h), rfl, permA⟩)
      · ((first | apply HX_ret | apply HX_retn); (repeat (first | exact Res_nil | apply Res_tmp rfl | apply Res_ce rfl rfl rfl)); unfold RetQ; refine ⟨(⟨x, x5, c5, (true, l4)⟩ : RdY), fun qs s' h => (by cases h), rfl, permA⟩)
    rw [if_pos q2]
    cases bad4
    rotate_left
    · exact absurd (hno rfl) q2
    clear hno
    obtain ⟨res, hres⟩ : ∃ r, rtA cnt x.t (x.routes.map RtS.q) a k (false, l4) = r := ⟨_, rfl⟩
    rw [hres]
    refine Tri_of (N := Tryz.f47.ntmps) (c := bodyOf Tryz.f47) Tryz.func47 rfl rfl rfl rfl (fun w0 S0 => ?_)
    dsimp only [pt, rqP, xQ, List.cons_append, List.nil_append] at k1 k2 k3 hpg ⊢
    repeat' (first | refine SW ?_ | ((refine HO_g 2 rfl ?_); (refine HO_skip rfl rfl rfl rfl rdA ?_)) | refine SD ?_ | (refine HO_k 12 rfl ?_; refine HO_call rfl rfl rfl rfl (k1) rfl (trivial) rfl rfl soA ?_; intro ⟨x1, c1⟩ g1; dsimp only [List.cons_append, List.nil_append]) | (refine HO_k 12 rfl ?_; refine HO_callq rfl rfl rfl rfl (hpg x1 c1 g1) (fun _ _ => rfl) (srcsA) rfl rfl sqA ?_) | (refine HO_k 12 rfl ?_; refine HO_mv 2 rfl rfl ?_; refine HO_mv 2 rfl rfl ?_; refine HO_call rfl rfl rfl rfl (k2 x1 c1 g1) rfl (trivial) rfl rfl soA ?_; intro ⟨⟨x3, c3⟩, ⟨x4, c4⟩⟩ g3; dsimp only [List.cons_append, List.nil_append]) | (refine HO_k 12 rfl ?_; refine HO_mv 2 rfl rfl ?_; refine HO_mv 2 rfl rfl ?_; refine HO_call rfl rfl rfl rfl (k3 x4 c4 g3.2) rfl (trivial) rfl rfl soA ?_; intro ⟨x5, c5⟩ g5; dsimp only [List.cons_append, List.nil_append]) | exact HO_seg rfl rfl | refine S1 ?_ | (refine S2 ?_; intro _) | (refine S3 ?_; intro _ _) | (refine S4 ?_; intro _ _ _) | (refine HO_g 2 rfl ?_; (first | apply HO_and rfl rfl rfl rfl rfl rfl rfl rfl rfl | apply HO_or rfl rfl rfl rfl rfl rfl rfl rfl rfl)) | refine S5 ?_ | (intro hb; try replace hb := simB hb; try exact kill hb))
    rename_i bp
    refine HC_keeps (rw' := rqP rb x5 c5 false l4 ++ (xQ b x ++ [cel bp 43 [.int .u32 a, .int .i64 k]])) permA ?_
    refine HC_loop (α := RlI) (fun z => z.j ≤ cnt ∧ z.y.s.1 = false ∧ z.y.s.2.length ≤ 100000 ∧ z.y.s.2.length ≤ z.y.c ∧ z.y.x.routes.length ≤ 16384 ∧ Stay x z.y.x ∧ rtA (cnt - z.j) x.t (z.y.x.routes.map RtS.q) a k z.y.s = res)
      (fun z => [(11, .int .i64 z.j), (10, .int .i64 cnt), (7, pt bp), (1, pt rb), (0, pt b)]) (fun z => rqP rb z.y.A z.y.c z.y.s.1 z.y.s.2 ++ (xQ b z.y.x ++ [cel bp 43 [.int .u32 a, .int .i64 k]])) (fun z => cnt - z.j) rfl
      ⟨⟨x, x5, c5, (false, l4)⟩, 0⟩ ⟨Nat.zero_le _, rfl, by simp only; omega, g5, hx, ⟨rfl, rfl, rfl⟩, hres⟩ ⟨rfl, rfl, rfl, rfl, rfl, trivial⟩ rfl ?_
    clear hres g5 k1 k2 k3 hpg
    intro ⟨⟨y, yA, yc, ⟨bad, ys⟩⟩, j⟩ ⟨hj, hbad, hs, hyc, hyl, hst, hinv⟩
    dsimp only at hbad
    subst hbad
    dsimp only [rqP, xQ, pt, List.cons_append, List.nil_append] at hj hs hyc hyl hst hinv ⊢
    rcases Nat.lt_or_ge j cnt with hlt | hge
    rotate_left
    · obtain rfl : j = cnt := by omega
      rw [Nat.sub_self] at hinv
      have hinv : some (y.routes.map RtS.q, (false, ys)) = res := hinv
      subst hinv
      have hl := qleftF_t rb yA ys.length yc
      have ed : decide ((ys.length : Int) = 0) = rtDone (some (y.routes.map RtS.q, (false, ys))) := nil_dec.symm
      repeat' (first | refine SW ?_ | refine SD ?_ | (refine HO_k 12 rfl ?_; refine HO_callq rfl rfl rfl rfl (hl) (fun _ _ => rfl) (srcsA) rfl rfl sqA ?_) | (with_reducible refine HO_rw (congrArg Value.bool ed) ?_) | exact HO_seg rfl rfl | refine S1 ?_ | (refine S2 ?_; intro _) | (refine S3 ?_; intro _ _) | (refine S4 ?_; intro _ _ _) | (refine HO_g 2 rfl ?_; (first | apply HO_and rfl rfl rfl rfl rfl rfl rfl rfl rfl | apply HO_or rfl rfl rfl rfl rfl rfl rfl rfl rfl)) | refine S5 ?_ | (intro hb; try replace hb := simB hb; try exact kill hb))
      ((first | apply HX_ret | apply HX_retn); (repeat (first | exact Res_nil | apply Res_tmp rfl | apply Res_ce rfl rfl rfl)); unfold RetQ; refine ⟨(⟨y, yA, yc, (false, ys)⟩ : RdY), fun qs s' h => (by simp only [Option.some.injEq, Prod.mk.injEq] at h; exact ⟨h.1, hyl, hst⟩), rfl, permA⟩)
    rw [show cnt - j = (cnt - (j + 1)) + 1 by omega, rtA_succ, List.length_map] at hinv
    unfold routeM at hinv
    simp only at hinv
    have b1 := rS_len 2 (false, ys)
    have b2 := rS_len 4 (rS 2 (false, ys))
    have b3 := rS_len 4 (rS 4 (rS 2 (false, ys)))
    have b4 := rS_len 2 (rS 4 (rS 4 (rS 2 (false, ys))))
    have v4 := rV_lt 2 (rS 4 (rS 4 (rS 2 (false, ys))))
    have k1 := rnumG_t rb yA yc (false, ys) 2 (by decide) hs hyc
    have k2 := fun A c hc => rnumG_t rb A c (rS 2 (false, ys)) 4 (by decide) (by simp only at b1; omega) hc
    have k3 := fun A c hc => rnumG_t rb A c (rS 4 (rS 2 (false, ys))) 4 (by decide) (by simp only at b1; omega) hc
    have k4 := fun A c hc => rnumG_t rb A c (rS 4 (rS 4 (rS 2 (false, ys)))) 2 (by decide) (by simp only at b1; omega) hc
    obtain ⟨s1, e1'⟩ : ∃ q, rS 2 (false, ys) = q := ⟨_, rfl⟩
    obtain ⟨n1, f1'⟩ : ∃ q, rV 2 (false, ys) = q := ⟨_, rfl⟩
    simp only [e1', f1'] at b1 b2 b3 b4 v4 k1 k2 k3 k4 hinv
    obtain ⟨s2, e2'⟩ : ∃ q, rS 4 s1 = q := ⟨_, rfl⟩
    obtain ⟨n2, f2'⟩ : ∃ q, rV 4 s1 = q := ⟨_, rfl⟩
    simp only [e2', f2'] at b2 b3 b4 v4 k2 k3 k4 hinv
    obtain ⟨s3', e3'⟩ : ∃ q, rS 4 s2 = q := ⟨_, rfl⟩
    obtain ⟨n3, f3'⟩ : ∃ q, rV 4 s2 = q := ⟨_, rfl⟩
    simp only [e3', f3'] at b3 b4 v4 k3 k4 hinv
    obtain ⟨s4', e4'⟩ : ∃ q, rS 2 s3' = q := ⟨_, rfl⟩
    obtain ⟨n4, f4'⟩ : ∃ q, rV 2 s3' = q := ⟨_, rfl⟩
    simp only [e4', f4'] at b4 v4 k4 hinv
    have b5 := rS_len n4 s4'
    have hdl := rB_len n4 s4'
    have hbno := rB_no (w := n4) (s := s4')
    have k5 := fun A c hc => rbytesG_t rb A c s4' n4 (by omega) hc
    obtain ⟨⟨bad5, l5⟩, e5'⟩ : ∃ q, rS n4 s4' = q := ⟨_, rfl⟩
    obtain ⟨dt, ed⟩ : ∃ q, rB n4 s4' = q := ⟨_, rfl⟩
    simp only [e5', ed] at b5 hdl k5 hbno hinv
    have hag := fun A c => rget5_t true A c dt (by omega)
    rw [show szF true = 4 from rfl] at hag
    obtain ⟨pa, vd, hg⟩ : ∃ pa vd, getG 4 dt = (pa, vd) := ⟨_, _, rfl⟩
    have hvb : bad5 = true → vd ≠ 1 := fun h => by
      have := getG_nil
      rw [← hbno h, hg] at this
      exact this
    simp only [hg] at hag hinv
    dsimp only [pt, rqP, xQ, List.cons_append, List.nil_append] at k1 k2 k3 k4 k5
    repeat' (first | refine SW ?_ | ((refine HO_g 2 rfl ?_); (refine HO_skip rfl rfl rfl rfl rdA ?_)) | refine SD ?_ | exact HO_seg rfl rfl | refine S1 ?_ | (refine S2 ?_; intro _) | (refine S3 ?_; intro _ _) | (refine S4 ?_; intro _ _ _) | (refine HO_g 2 rfl ?_; (first | apply HO_and rfl rfl rfl rfl rfl rfl rfl rfl rfl | apply HO_or rfl rfl rfl rfl rfl rfl rfl rfl rfl)) | refine S5n ?_ | (intro hb; try replace hb := simB hb; try exact kill hb))
    refine HC_cutP (α := OA × Nat) (fun z => s1.2.length ≤ z.1.2) (fun z => [(12, pt z.2), (11, .int .i64 j), (10, .int .i64 cnt), (7, pt bp), (1, pt rb), (0, pt b)])
      (fun z => rqP rb z.1.1 z.1.2 s1.1 s1.2 ++ (cel z.2 51 [.int .i64 n1, .int .u32 a, .int .i64 k, .int .i64 0, .int .i64 0, .slice none 0 0, .int .u32 0, .int .i64 0, .int .i64 0, .slice none 0 0] :: (xQ b y ++ [cel bp 43 [.int .u32 a, .int .i64 k]]))) ?_ ?_
    · repeat' (first | refine SW ?_ | refine SD ?_ | exact HO_seg rfl rfl | refine S1 ?_ | (refine S2 ?_; intro _) | (refine S3 ?_; intro _ _) | (refine S4 ?_; intro _ _ _) | (refine HO_g 2 rfl ?_; (first | apply HO_and rfl rfl rfl rfl rfl rfl rfl rfl rfl | apply HO_or rfl rfl rfl rfl rfl rfl rfl rfl rfl)) | refine S5 ?_ | (intro hb; try replace hb := simB hb; try exact kill hb))
      refine HO_two (i := 1) (j := 5) (l1 := [3, 4, 5, 6]) (l2 := [1, 3, 4, 6]) (by decide +kernel) rfl ⟨by decide +kernel, rfl, rfl⟩ ⟨by decide +kernel, rfl, rfl⟩ ?_ ?_
      · repeat' (first | refine SW ?_ | refine SD ?_ | (refine HO_k 12 rfl ?_; refine HO_call rfl rfl rfl rfl (k1) rfl (trivial) rfl rfl soA ?_; intro ⟨x1, c1⟩ g1; dsimp only [List.cons_append, List.nil_append]) | exact HO_seg rfl rfl | refine S1 ?_ | (refine S2 ?_; intro _) | (refine S3 ?_; intro _ _) | (refine S4 ?_; intro _ _ _) | (refine HO_g 2 rfl ?_; (first | apply HO_and rfl rfl rfl rfl rfl rfl rfl rfl rfl | apply HO_or rfl rfl rfl rfl rfl rfl rfl rfl rfl)) | refine S5 ?_ | (intro hb; try replace hb := simB hb; try exact kill hb))
        rename_i bx
        refine HX_keeps (rw' := rqP rb x1 c1 s1.1 s1.2 ++ (cel bx 51 [.int .i64 n1, .int .u32 a, .int .i64 k, .int .i64 0, .int .i64 0, .slice none 0 0, .int .u32 0, .int .i64 0, .int .i64 0, .slice none 0 0] :: (xQ b y ++ [cel bp 43 [.int .u32 a, .int .i64 k]]))) permA ?_
        exact HX_at ((x1, c1), bx) g1 ⟨rfl, rfl, rfl, rfl, rfl, rfl, trivial⟩ rfl
      · repeat' (first | refine SW ?_ | refine SD ?_ | (refine HO_k 12 rfl ?_; refine HO_mv 2 rfl rfl ?_; refine HO_mv 2 rfl rfl ?_; refine HO_call rfl rfl rfl rfl (k1) rfl (trivial) rfl rfl soA ?_; intro ⟨x1, c1⟩ g1; dsimp only [List.cons_append, List.nil_append]) | exact HO_seg rfl rfl | refine S1 ?_ | (refine S2 ?_; intro _) | (refine S3 ?_; intro _ _) | (refine S4 ?_; intro _ _ _) | (refine HO_g 2 rfl ?_; (first | apply HO_and rfl rfl rfl rfl rfl rfl rfl rfl rfl | apply HO_or rfl rfl rfl rfl rfl rfl rfl rfl rfl)) | refine S5 ?_ | (intro hb; try replace hb := simB hb; try exact kill hb))
        rename_i bx
        refine HX_keeps (rw' := rqP rb x1 c1 s1.1 s1.2 ++ (cel bx 51 [.int .i64 n1, .int .u32 a, .int .i64 k, .int .i64 0, .int .i64 0, .slice none 0 0, .int .u32 0, .int .i64 0, .int .i64 0, .slice none 0 0] :: (xQ b y ++ [cel bp 43 [.int .u32 a, .int .i64 k]]))) permA ?_
        exact HX_at ((x1, c1), bx) g1 ⟨rfl, rfl, rfl, rfl, rfl, rfl, trivial⟩ rfl
    intro ⟨⟨x1, c1⟩, bx⟩ g1
    dsimp only [rqP, xQ, pt, List.cons_append, List.nil_append] at g1 ⊢
    repeat' (first | refine SW ?_ | ((refine HO_g 2 rfl ?_); (refine HO_skip rfl rfl rfl rfl rdA ?_)) | (refine HO_k 12 rfl ?_; refine HO_call rfl rfl rfl rfl (k2 x1 c1 g1) rfl (trivial) rfl rfl soA ?_; intro ⟨x2, c2⟩ g2; dsimp only [List.cons_append, List.nil_append]) | (refine HO_k 12 rfl ?_; refine HO_call rfl rfl rfl rfl (k3 x2 c2 g2) rfl (trivial) rfl rfl soA ?_; intro ⟨x3, c3⟩ g3; dsimp only [List.cons_append, List.nil_append]) | (refine HO_k 12 rfl ?_; refine HO_call rfl rfl rfl rfl (k4 x3 c3 g3) rfl (trivial) rfl rfl soA ?_; intro ⟨x4, c4⟩ g4; dsimp only [List.cons_append, List.nil_append]) | (refine HO_k 12 rfl ?_; refine HO_call rfl rfl rfl rfl (k5 x4 c4 g4) rfl (trivial) rfl rfl soA ?_; intro ⟨⟨x5, c5⟩, ⟨x6, c6⟩⟩ g5; dsimp only [List.cons_append, List.nil_append]) | (refine HO_k 12 rfl ?_; refine HO_call rfl rfl rfl rfl (hag x5 c5) rfl (srcsA) rfl rfl soA ?_; intro at' hat; dsimp only [AttS.ro, List.cons_append, List.nil_append]) | exact HO_seg rfl rfl | refine S1 ?_ | (refine S2 ?_; intro _) | (refine S3 ?_; intro _ _) | (refine S4 ?_; intro _ _ _) | (refine HO_g 2 rfl ?_; (first | apply HO_and rfl rfl rfl rfl rfl rfl rfl rfl rfl | apply HO_or rfl rfl rfl rfl rfl rfl rfl rfl rfl)) | refine S5 ?_ | (intro hb; try replace hb := simB hb; try exact kill hb))
    have hat : at'.pa = pa := hat
    rename_i ba
    refine HC_cond rfl rfl (fun hb => ?_) (fun hb => ?_)
    · have hn : ¬ (vd = 1 ∧ (n2 : Int) = x.t ∧ y.routes.length + 1 ≤ 16384) := by
        rintro ⟨h1, h2, h3⟩
        have h5 : bad5 = false := by
          cases bad5
          · rfl
          · exact absurd h1 (hvb rfl)
        rw [← hst.t] at h2
        rw [h5, decide_eq_true h1, decide_eq_true h2, decide_eq_false (by omega)] at hb
        cases hb
      rw [if_neg hn] at hinv
      change none = res at hinv
      subst hinv
      repeat' (first | refine SW ?_ | ((refine HO_g 2 rfl ?_); (refine HO_skip rfl rfl rfl rfl rdA ?_)) | refine SD ?_ | exact HO_seg rfl rfl | refine S1 ?_ | (refine S2 ?_; intro _) | (refine S3 ?_; intro _ _) | (refine S4 ?_; intro _ _ _) | (refine HO_g 2 rfl ?_; (first | apply HO_and rfl rfl rfl rfl rfl rfl rfl rfl rfl | apply HO_or rfl rfl rfl rfl rfl rfl rfl rfl rfl)) | refine S5 ?_ | (intro hb; try replace hb := simB hb; try exact kill hb))
      ((first | apply HX_ret | apply HX_retn); (repeat (first | exact Res_nil | apply Res_tmp rfl | apply Res_ce rfl rfl rfl)); unfold RetQ; refine ⟨(⟨y, x6, c6, (bad5, l5)⟩ : RdY), fun qs s' h => (by cases h), rfl, permA⟩)
    simp only [Bool.or_eq_false_iff, Bool.not_eq_false', decide_eq_true_eq, decide_eq_false_iff_not] at hb
    obtain ⟨⟨⟨h5, hv⟩, ht⟩, hlr⟩ := hb
    subst h5
    rw [hst.t] at ht
    rw [if_pos ⟨hv, ht, by omega⟩] at hinv
    change rtA (cnt - (j + 1)) x.t (y.routes.map RtS.q ++ [⟨n1, a, k, n3, pa⟩]) a k (false, l5) = res at hinv
    repeat' (first | refine SW ?_ | ((refine HO_g 2 rfl ?_); (refine HO_skip rfl rfl rfl rfl rdA ?_)) | refine SD ?_ | exact HO_seg rfl rfl | refine S1 ?_ | (refine S2 ?_; intro _) | (refine S3 ?_; intro _ _) | (refine S4 ?_; intro _ _ _) | (refine HO_g 2 rfl ?_; (first | apply HO_and rfl rfl rfl rfl rfl rfl rfl rfl rfl | apply HO_or rfl rfl rfl rfl rfl rfl rfl rfl rfl)) | refine S5 ?_ | (intro hb; try replace hb := simB hb; try exact kill hb))
    rename_i A' c'
    obtain ⟨sg, hsg⟩ : ∃ sg : RtS, sg = ⟨n1, a, k, n3, at'⟩ := ⟨_, rfl⟩
    have eL : y.routes.length + 1 = (y.routes ++ [sg]).length := by simp
    have eM : List.map RtS.e y.routes ++ [[Value.int .i64 (n1 : Int), .int .u32 a, .int .i64 k, .int .i64 (n3 : Int), .int .i64 at'.org, .slice at'.pA at'.path.length at'.pc, .int .u32 at'.nxt, .int .i64 at'.med, .int .i64 at'.pref, .slice at'.cA at'.comms.length at'.cc]] = List.map RtS.e (y.routes ++ [sg]) := by rw [List.map_append, hsg]; rfl
    have eP : rtPs y.routes ++ segPs at'.path ++ [arr SegS.e 2 at'.pA at'.path] ++ [arr iE 1 at'.cA at'.comms] = rtPs (y.routes ++ [sg]) := by rw [rtPs_snoc, hsg]; simp only [List.append_assoc, List.cons_append, List.nil_append]
    have eQ : y.routes.map RtS.q ++ [⟨n1, a, k, n3, pa⟩] = (y.routes ++ [sg]).map RtS.q := by rw [List.map_append, hsg, ← hat]; rfl
    rw [eQ] at hinv
    rw [eL, eM]
    refine HX_keeps (rw' := rqP rb x6 c6 false l5 ++ (xQ b { y with rA := A', rc := c', routes := y.routes ++ [sg] } ++ [cel bp 43 [.int .u32 a, .int .i64 k]])) ?_ ?_
    · dsimp only [rqP, xQ, List.cons_append, List.nil_append]
      refine Keeps.comp (b := [inn (rtPs y.routes), inn (segPs at'.path), arr SegS.e 2 at'.pA at'.path, arr iE 1 at'.cA at'.comms, cel rb TQ [.slice x6 l5.length c6, .bool false], arr bE 1 x6 l5, cel b 26 [.int .i64 y.t, .int .u32 y.id, .slice y.pA y.peers.length y.pc, .slice A' (y.routes ++ [sg]).length c'], ownP (y.pA, y.pc) y.peers, ownR (A', c') (y.routes ++ [sg]), cel bp 43 [.int .u32 a, .int .i64 k]]) permA ?_
      refine Keeps.inn_two (Keeps.inn_snoc (Keeps.inn_snoc ?_))
      rw [eP]
      exact permA
    exact HX_at ⟨⟨{ y with rA := A', rc := c', routes := y.routes ++ [sg] }, x6, c6, (false, l5)⟩, j + 1⟩ ⟨⟨hlt, rfl, by simp only at b5 ⊢; omega, g5.2, by simp only [List.length_append, List.length_cons, List.length_nil]; omega, ⟨hst.t, hst.i, hst.p⟩, hinv⟩, by simp only; omega⟩ ⟨rfl, rfl, rfl, rfl, rfl, trivial⟩ rfl
attribute [local irreducible] routesM peersM

@[reducible] def zDc (br : Nat) : SL := cel br 26 [.int .i64 0, .int .u32 0, .slice none 0 0, .slice none 0 0]
theorem HO_holdOM {P : Program} {N : Nat} {w0 : World} {S0 : Foot} {ops : List Oper} {env : Env} {ro rw rw' : List SL} {K : Act → World → Prop} {ro0 : List SL} {l : List Nat} (k : Nat) {e : SL} (hk : rw[k]? = some e) (hr : eraseO rw k = some rw') (h : HO (.lex ro0) P N w0 S0 ops l env (e :: ro) rw' K) : HO (.lex ro0) P N w0 S0 ops l env ro rw K := by
  have e := eraseO_eq hr
  subst e
  exact HO_hold hk h
theorem HO_b2sa {m : Md} {P : Program} {N : Nat} {w0 : World} {S0 : Foot} {ops : List Oper} {i : Nat} {lq : List Nat} {env : Env} {ro rw : List SL} {K : Act → World → Prop} {d : Nat} {ty : TypeId} {pos : String} {aft : Array Edge} {g : Option (Nat × Bool)}
    {T U n c : Nat} {A : Option Addr} {x : Operand} {l : List UInt8} {e : Nat} [hT : TySlice P T e] [hE : TyInt P e .u8] [hU : TyStr P U] (k : Nat) (ho : ops[i]? = some ⟨some d, .convert T U x, ty, pos, aft, g⟩) (hx : Env.ev env x = some (.slice A n c))
    (hk : ro[k]? = some (arr bE 1 A l)) (hn : n = l.length) (hw : wantE ops env g = some true) (hN : Nat.blt d N = true) (hr : rdyB m ops i lq = true)
    (h : HO m P N w0 S0 ops lq ((d, .string ⟨l.toArray⟩) :: env) ro rw K) : HO m P N w0 S0 ops (i :: lq) env ro rw K :=
  HO_b2s ho hx ⟨_, seeL_ro (List.mem_of_getElem? hk), arr_raw⟩ hn hw hN hr h
theorem recM_nil (first : Bool) (x : MSt) : recM first x (false, []) = none := by
  unfold recM
  simp only
  have h4 : rS 4 (false, []) = (true, []) := by unfold rS; rw [rok_out (by simp)]; rfl
  have hb : ∀ w, rS w (true, ([] : List UInt8)) = (true, []) := fun w => rS_bad rfl
  rw [h4, hb, hb, hb, hb]
  exact if_pos (.inl rfl)
def QR : Option MSt → DuS → Prop
  | none, y => y = zDu
  | some m, y => (y.t = m.t ∧ y.id = m.id ∧ y.peers = m.peers ∧ y.routes.map RtS.q = m.routes) ∧ DuW y
theorem keep_z {rw : List SL} : Keeps rw zDu.ro := Keeps.add (fun w => arr_nil _ w) (Keeps.add (fun w => arr_nil _ w) (Keeps.add inn_nil Keeps.nil))
structure QI where
  y : RdY
  f : Bool
set_option maxHeartbeats 64000000 in
set_option maxRecDepth 100000 in
theorem qget_t (A : Option Addr) (c : Nat) (bs : List UInt8) (hb : bs.length ≤ 100000) :
    Tri Tryz.prog 13 [.slice A bs.length c] [arr bE 1 A bs] [] (QR (getD bs)) (fun y => .tuple #[.agg y.e.toArray, .bool (getD bs).isSome]) (fun y => y.ro) := by
  obtain ⟨res, hres⟩ : ∃ r, getM bs = r := ⟨_, rfl⟩
  obtain ⟨r, hr⟩ : ∃ r, getD bs = r := ⟨_, rfl⟩
  have hgd : pickD bs res = r := by rw [← hres]; exact hr
  rw [hr]
  clear hr
  unfold getM at hres
  refine Tri_of (N := Tryz.f13.ntmps) (c := bodyOf Tryz.f13) Tryz.func13 rfl rfl rfl rfl (fun w0 S0 => ?_)
  repeat' (first | refine SW ?_ | refine SD ?_ | exact HO_seg rfl rfl | refine S1 ?_ | (refine S2 ?_; intro _) | (refine S3 ?_; intro _ _) | (refine S4 ?_; intro _ _ _) | (refine HO_g 2 rfl ?_; (first | apply HO_and rfl rfl rfl rfl rfl rfl rfl rfl rfl | apply HO_or rfl rfl rfl rfl rfl rfl rfl rfl rfl)) | refine S5 ?_ | (intro hb; try replace hb := simB hb; try exact kill hb))
  rename_i br b b0 A0 c0 rb
  rw [Nat.zero_add]
  refine HC_knowH (C := bs.length ≤ c0) (fun w h => by have := own_cap 2 rfl h; simpa using this) fun hc0 => ?_
  refine HC_add (e := ownP (none, 0) []) (fun w => own_nil w) (HC_add (e := ownR (none, 0) []) (fun w => own_nil w) (HC_add (e := inn []) inn_nil ?_))
  refine HC_keeps (rw' := rqP rb A0 c0 false bs ++ (xQ b zRd ++ [zDc br])) (Keeps.pick 3 rfl rfl (Keeps.pickE 3 rfl rfl own_e permA)) ?_
  refine HC_loop (α := QI) (fun z => z.y.s.1 = false ∧ z.y.s.2.length ≤ 100000 ∧ z.y.s.2.length ≤ z.y.c ∧ MW z.y.x.m ∧ z.y.x.n + z.y.s.2.length ≤ 100000 ∧ (z.f = true → z.y.x.peers = []) ∧ getF z.f z.y.x.m z.y.s = res)
    (fun z => [(7, .int .i64 z.y.x.n), (6, .bool z.f), (5, pt rb), (4, pt b), (3, .bool false), (2, pt br), (0, .slice A bs.length c)]) (fun z => rqP rb z.y.A z.y.c z.y.s.1 z.y.s.2 ++ (xQ b z.y.x ++ [zDc br])) (fun z => z.y.s.2.length) rfl
    ⟨⟨zRd, A0, c0, (false, bs)⟩, true⟩ ⟨rfl, hb, hc0, zRd_w, by show (0 : Int) + bs.length ≤ _; omega, fun _ => rfl, hres⟩ ⟨rfl, rfl, rfl, rfl, rfl, rfl, rfl, trivial⟩ rfl ?_
  clear hres hc0
  intro ⟨⟨x, xA, xc, ⟨bad, s⟩⟩, f⟩ ⟨hbad, hs, hc, hw, hn, hp, hinv⟩
  simp only at hbad hs hc hw hn hp hinv
  subst hbad
  have hxr : x.routes.length ≤ 16384 := by have := hw.r; rwa [show x.m.routes.length = x.routes.length from List.length_map ..] at this
  have hxp : x.peers.length ≤ 16 := hw.p
  have hx0 : 0 ≤ x.n := hw.n
  rw [getF_eq] at hinv
  have hl := qleftF_t rb xA s.length xc
  dsimp only [pt, rqP, xQ, zDc, List.cons_append, List.nil_append]
  by_cases hs0 : s = []
  · subst hs0
    cases f
    · rw [if_pos ⟨rfl, rfl⟩] at hinv
      subst hinv
      rw [pickD_some] at hgd
      have hW := RdS.dw hw
      have hck := rcheckM_t x.d hW
      refine HC_keeps (rw' := [arr PeS.e 3 x.pA x.peers, arr RtS.e 10 x.rA x.routes, inn (rtPs x.routes), cel b 26 [.int .i64 x.t, .int .u32 x.id, .slice x.pA x.peers.length x.pc, .slice x.rA x.routes.length x.rc], cel rb TQ [.slice xA 0 xc, .bool false], arr bE 1 xA [], cel br 26 [.int .i64 0, .int .u32 0, .slice none 0 0, .slice none 0 0]]) (Keeps.pickE 3 rfl rfl own_pe (Keeps.pickE 3 rfl rfl own_rt permA)) ?_
      cases hcq : chkQ x.m with
      | false =>
        rw [show chkM x.d = false from (chkM_q x.d).trans hcq] at hck
        dsimp only [RdS.d, DuS.ro, DuS.e] at hck
        rw [if_neg (fun h => by rw [hcq] at h; cases h.1)] at hgd
        subst hgd
        repeat' (first | refine SW ?_ | ((refine HO_g 2 rfl ?_); (refine HO_skip rfl rfl rfl rfl rdA ?_)) | refine SD ?_ | refine HC_lex rfl rfl (by decide +kernel) rfl rfl ?_ | (refine HO_k 12 rfl ?_; refine HO_callq rfl rfl rfl rfl (hl) (fun _ _ => rfl) (srcsA) rfl rfl sqA ?_) | (refine HO_k 12 rfl ?_; refine HO_callq rfl rfl rfl rfl (hck) (fun _ _ => rfl) (srcsB) rfl rfl sqA ?_) | exact HO_seg rfl rfl | refine S1 ?_ | (refine S2 ?_; intro _) | (refine S3 ?_; intro _ _) | (refine S4 ?_; intro _ _ _) | (refine HO_g 2 rfl ?_; (first | apply HO_and rfl rfl rfl rfl rfl rfl rfl rfl rfl | apply HO_or rfl rfl rfl rfl rfl rfl rfl rfl rfl)) | refine S5 ?_ | (intro hb; try replace hb := simB hb; try exact kill hb))
        ((first | apply HX_ret | apply HX_retn); (repeat (first | exact Res_nil | apply Res_tmp rfl | apply Res_ce rfl rfl rfl)); unfold RetQ; refine ⟨zDu, rfl, rfl, keep_z⟩)
      | true =>
        have hckT : chkM x.d = true := (chkM_q x.d).trans hcq
        rw [hckT] at hck
        have hput := rput35_t x.d hW hckT
        have hstr := ba_eq (putD x.d) bs
        have hpq : putD x.d = putQ x.m := by rw [putD_q]; rfl
        obtain ⟨pb, hpb⟩ : ∃ p, putD x.d = p := ⟨_, rfl⟩
        rw [hpb] at hput hstr hpq
        dsimp only [RdS.d, DuS.ro, DuS.e] at hck hput
        by_cases hbe : bs = putQ x.m
        · rw [if_pos ⟨hcq, hbe⟩] at hgd
          subst hgd
          rw [decide_eq_true (by rw [hpq, hbe])] at hstr
          have hstr := congrArg not hstr
          rw [show (!true) = false from rfl] at hstr
          repeat' (first | refine SW ?_ | ((refine HO_g 2 rfl ?_); (refine HO_skip rfl rfl rfl rfl rdA ?_)) | refine SD ?_ | refine HC_lex rfl rfl (by decide +kernel) rfl rfl ?_ | (refine HO_k 12 rfl ?_; refine HO_callq rfl rfl rfl rfl (hl) (fun _ _ => rfl) (srcsA) rfl rfl sqA ?_) | (refine HO_k 12 rfl ?_; refine HO_callq rfl rfl rfl rfl (hck) (fun _ _ => rfl) (srcsB) rfl rfl sqA ?_) | (refine HO_k 12 rfl ?_; refine HO_call rfl rfl rfl rfl (hput) rfl (srcsB) rfl rfl soA ?_; intro ⟨oA, oc⟩ g1; dsimp only [List.cons_append, List.nil_append]) | (refine HO_k 7 rfl ?_; (first | refine HO_b2sa (l := bs) 0 rfl rfl rfl rfl rfl rfl rdA ?_ | refine HO_b2sa (l := bs) 1 rfl rfl rfl rfl rfl rfl rdA ?_ | refine HO_b2sa (l := bs) 2 rfl rfl rfl rfl rfl rfl rdA ?_ | refine HO_b2sa (l := bs) 3 rfl rfl rfl rfl rfl rfl rdA ?_ | refine HO_b2sa (l := bs) 4 rfl rfl rfl rfl rfl rfl rdA ?_ | refine HO_b2sa (l := bs) 5 rfl rfl rfl rfl rfl rfl rdA ?_ | refine HO_b2sa (l := bs) 6 rfl rfl rfl rfl rfl rfl rdA ?_ | (refine HO_holdOM 0 rfl rfl ?_; refine HO_b2sr (l := pb) 0 rfl rfl rfl rfl rfl rfl rfl rdA ?_) | (refine HO_holdOM 1 rfl rfl ?_; refine HO_b2sr (l := pb) 0 rfl rfl rfl rfl rfl rfl rfl rdA ?_) | (refine HO_holdOM 2 rfl rfl ?_; refine HO_b2sr (l := pb) 0 rfl rfl rfl rfl rfl rfl rfl rdA ?_) | (refine HO_holdOM 3 rfl rfl ?_; refine HO_b2sr (l := pb) 0 rfl rfl rfl rfl rfl rfl rfl rdA ?_) | (refine HO_holdOM 4 rfl rfl ?_; refine HO_b2sr (l := pb) 0 rfl rfl rfl rfl rfl rfl rfl rdA ?_) | (refine HO_holdOM 5 rfl rfl ?_; refine HO_b2sr (l := pb) 0 rfl rfl rfl rfl rfl rfl rfl rdA ?_) | (refine HO_holdOM 6 rfl rfl ?_; refine HO_b2sr (l := pb) 0 rfl rfl rfl rfl rfl rfl rfl rdA ?_) | (refine HO_holdOM 7 rfl rfl ?_; refine HO_b2sr (l := pb) 0 rfl rfl rfl rfl rfl rfl rfl rdA ?_))) | (with_reducible refine HO_rw (congrArg Value.bool hstr) ?_) | exact HO_seg rfl rfl | refine S1 ?_ | (refine S2 ?_; intro _) | (refine S3 ?_; intro _ _) | (refine S4 ?_; intro _ _ _) | (refine HO_g 2 rfl ?_; (first | apply HO_and rfl rfl rfl rfl rfl rfl rfl rfl rfl | apply HO_or rfl rfl rfl rfl rfl rfl rfl rfl rfl)) | refine S5 ?_ | (intro hb; try replace hb := simB hb; try exact kill hb))
          ((first | apply HX_ret | apply HX_retn); (repeat (first | exact Res_nil | apply Res_tmp rfl | apply Res_ce rfl rfl rfl)); unfold RetQ; refine ⟨x.d, ⟨⟨rfl, rfl, rfl, rfl⟩, hW⟩, rfl, permA⟩)
        · rw [if_neg (fun h => hbe h.2)] at hgd
          subst hgd
          rw [decide_eq_false (fun e => hbe (by rw [← e, hpq]))] at hstr
          have hstr := congrArg not hstr
          rw [show (!false) = true from rfl] at hstr
          repeat' (first | refine SW ?_ | ((refine HO_g 2 rfl ?_); (refine HO_skip rfl rfl rfl rfl rdA ?_)) | refine SD ?_ | refine HC_lex rfl rfl (by decide +kernel) rfl rfl ?_ | (refine HO_k 12 rfl ?_; refine HO_callq rfl rfl rfl rfl (hl) (fun _ _ => rfl) (srcsA) rfl rfl sqA ?_) | (refine HO_k 12 rfl ?_; refine HO_callq rfl rfl rfl rfl (hck) (fun _ _ => rfl) (srcsB) rfl rfl sqA ?_) | (refine HO_k 12 rfl ?_; refine HO_call rfl rfl rfl rfl (hput) rfl (srcsB) rfl rfl soA ?_; intro ⟨oA, oc⟩ g1; dsimp only [List.cons_append, List.nil_append]) | (refine HO_k 7 rfl ?_; (first | refine HO_b2sa (l := bs) 0 rfl rfl rfl rfl rfl rfl rdA ?_ | refine HO_b2sa (l := bs) 1 rfl rfl rfl rfl rfl rfl rdA ?_ | refine HO_b2sa (l := bs) 2 rfl rfl rfl rfl rfl rfl rdA ?_ | refine HO_b2sa (l := bs) 3 rfl rfl rfl rfl rfl rfl rdA ?_ | refine HO_b2sa (l := bs) 4 rfl rfl rfl rfl rfl rfl rdA ?_ | refine HO_b2sa (l := bs) 5 rfl rfl rfl rfl rfl rfl rdA ?_ | refine HO_b2sa (l := bs) 6 rfl rfl rfl rfl rfl rfl rdA ?_ | (refine HO_holdOM 0 rfl rfl ?_; refine HO_b2sr (l := pb) 0 rfl rfl rfl rfl rfl rfl rfl rdA ?_) | (refine HO_holdOM 1 rfl rfl ?_; refine HO_b2sr (l := pb) 0 rfl rfl rfl rfl rfl rfl rfl rdA ?_) | (refine HO_holdOM 2 rfl rfl ?_; refine HO_b2sr (l := pb) 0 rfl rfl rfl rfl rfl rfl rfl rdA ?_) | (refine HO_holdOM 3 rfl rfl ?_; refine HO_b2sr (l := pb) 0 rfl rfl rfl rfl rfl rfl rfl rdA ?_) | (refine HO_holdOM 4 rfl rfl ?_; refine HO_b2sr (l := pb) 0 rfl rfl rfl rfl rfl rfl rfl rdA ?_) | (refine HO_holdOM 5 rfl rfl ?_; refine HO_b2sr (l := pb) 0 rfl rfl rfl rfl rfl rfl rfl rdA ?_) | (refine HO_holdOM 6 rfl rfl ?_; refine HO_b2sr (l := pb) 0 rfl rfl rfl rfl rfl rfl rfl rdA ?_) | (refine HO_holdOM 7 rfl rfl ?_; refine HO_b2sr (l := pb) 0 rfl rfl rfl rfl rfl rfl rfl rdA ?_))) | (with_reducible refine HO_rw (congrArg Value.bool hstr) ?_) | exact HO_seg rfl rfl | refine S1 ?_ | (refine S2 ?_; intro _) | (refine S3 ?_; intro _ _) | (refine S4 ?_; intro _ _ _) | (refine HO_g 2 rfl ?_; (first | apply HO_and rfl rfl rfl rfl rfl rfl rfl rfl rfl | apply HO_or rfl rfl rfl rfl rfl rfl rfl rfl rfl)) | refine S5 ?_ | (intro hb; try replace hb := simB hb; try exact kill hb))
          ((first | apply HX_ret | apply HX_retn); (repeat (first | exact Res_nil | apply Res_tmp rfl | apply Res_ce rfl rfl rfl)); unfold RetQ; refine ⟨zDu, rfl, rfl, keep_z⟩)
    · rw [if_neg (fun h => by cases h.1), recM_nil] at hinv
      change none = res at hinv
      subst hinv
      have hgd : none = r := hgd
      subst hgd
      repeat' (first | refine SW ?_ | ((refine HO_g 2 rfl ?_); (refine HO_skip rfl rfl rfl rfl rdA ?_)) | refine SD ?_ | (refine HO_k 12 rfl ?_; refine HO_callq rfl rfl rfl rfl (hl) (fun _ _ => rfl) (srcsA) rfl rfl sqA ?_) | exact HO_seg rfl rfl | refine S1 ?_ | (refine S2 ?_; intro _) | (refine S3 ?_; intro _ _) | (refine S4 ?_; intro _ _ _) | (refine HO_g 2 rfl ?_; (first | apply HO_and rfl rfl rfl rfl rfl rfl rfl rfl rfl | apply HO_or rfl rfl rfl rfl rfl rfl rfl rfl rfl)) | refine S5 ?_ | (intro hb; try replace hb := simB hb; try exact kill hb))
      ((first | apply HX_ret | apply HX_retn); (repeat (first | exact Res_nil | apply Res_tmp rfl | apply Res_ce rfl rfl rfl)); unfold RetQ; refine ⟨zDu, rfl, rfl, keep_z⟩)
  rw [if_neg (fun h => hs0 h.2)] at hinv
  have hpos : 0 < s.length := List.length_pos_iff.2 hs0
  have a1 := rS_len 4 (false, s)
  have a2 := rS_len 2 (rS 4 (false, s))
  have a3 := rS_len 2 (rS 2 (rS 4 (false, s)))
  have a4 := rS_len 4 (rS 2 (rS 2 (rS 4 (false, s))))
  have k1 := rnumG_t rb xA xc (false, s) 4 (by decide) hs hc
  have k2 := fun A c hc => rnumG_t rb A c (rS 4 (false, s)) 2 (by decide) (by simp only at a1; omega) hc
  have k3 := fun A c hc => rnumG_t rb A c (rS 2 (rS 4 (false, s))) 2 (by decide) (by simp only at a1; omega) hc
  have k4 := fun A c hc => rnumG_t rb A c (rS 2 (rS 2 (rS 4 (false, s)))) 4 (by decide) (by simp only at a1; omega) hc
  have next : ∀ (y : RdY) (x' : MSt) (s' : RS), recM f x.m (false, s) = some (x', s') → y.s.2.length ≤ y.c → y.s = s' → y.x.m = x' → getF false x' s' = res →
      ((y.s.1 = false ∧ y.s.2.length ≤ 100000 ∧ y.s.2.length ≤ y.c ∧ MW y.x.m ∧ y.x.n + y.s.2.length ≤ 100000 ∧ (false = true → y.x.peers = []) ∧ getF false y.x.m y.s = res) ∧ y.s.2.length < s.length) := by
    intro y x' s' hm h1 h2 h3 h4
    subst h2 h3
    obtain ⟨l1, l2, l3, l4⟩ := recM_len hm
    simp only at l2
    exact ⟨⟨l1, by omega, h1, recM_w hm hw hp, by have : y.x.m.n ≤ x.m.n + 1 := l3; have e1 : y.x.m.n = y.x.n := rfl; have e2 : x.m.n = x.n := rfl; omega, fun h => (by cases h), h4⟩, by omega⟩
  have hE : recM f x.m (false, s) = recM f x.m (false, s) := rfl
  conv at hE => rhs; unfold recM; simp only
  obtain ⟨s1, e1⟩ : ∃ q, rS 4 (false, s) = q := ⟨_, rfl⟩
  obtain ⟨tm, f1⟩ : ∃ q, rV 4 (false, s) = q := ⟨_, rfl⟩
  simp only [e1, f1] at a1 a2 a3 a4 k1 k2 k3 k4 hE
  obtain ⟨s2, e2⟩ : ∃ q, rS 2 s1 = q := ⟨_, rfl⟩
  obtain ⟨kd, f2⟩ : ∃ q, rV 2 s1 = q := ⟨_, rfl⟩
  simp only [e2, f2] at a2 a3 a4 k2 k3 k4 hE
  obtain ⟨s3, e3⟩ : ∃ q, rS 2 s2 = q := ⟨_, rfl⟩
  obtain ⟨sb, f3⟩ : ∃ q, rV 2 s2 = q := ⟨_, rfl⟩
  simp only [e3, f3] at a3 a4 k3 k4 hE
  obtain ⟨s4, e4⟩ : ∃ q, rS 4 s3 = q := ⟨_, rfl⟩
  obtain ⟨ln, f4⟩ : ∃ q, rV 4 s3 = q := ⟨_, rfl⟩
  simp only [e4, f4] at a4 k4 hE
  have a5 := rS_len ln s4
  have hbl := rB_len ln s4
  have k5 := fun A c hc => rbytesG_t rb A c s4 ln (by omega) hc
  obtain ⟨⟨bad5, l5⟩, e5⟩ : ∃ q, rS ln s4 = q := ⟨_, rfl⟩
  obtain ⟨bd, f5⟩ : ∃ q, rB ln s4 = q := ⟨_, rfl⟩
  simp only [e5, f5] at a5 hbl k5 hE
  dsimp only [pt, rqP] at k1 k2 k3 k4 k5
  cases f
  · repeat' (first | refine SW ?_ | ((refine HO_g 2 rfl ?_); (refine HO_skip rfl rfl rfl rfl rdA ?_)) | refine SD ?_ | (refine HO_k 12 rfl ?_; refine HO_callq rfl rfl rfl rfl (hl) (fun _ _ => rfl) (srcsA) rfl rfl sqA ?_) | (refine HO_k 12 rfl ?_; refine HO_call rfl rfl rfl rfl (k1) rfl (trivial) rfl rfl soA ?_; intro ⟨x1, c1⟩ g1; dsimp only [List.cons_append, List.nil_append]) | (refine HO_k 12 rfl ?_; refine HO_call rfl rfl rfl rfl (k2 x1 c1 g1) rfl (trivial) rfl rfl soA ?_; intro ⟨x2, c2⟩ g2; dsimp only [List.cons_append, List.nil_append]) | (refine HO_k 12 rfl ?_; refine HO_call rfl rfl rfl rfl (k3 x2 c2 g2) rfl (trivial) rfl rfl soA ?_; intro ⟨x3, c3⟩ g3; dsimp only [List.cons_append, List.nil_append]) | (refine HO_k 12 rfl ?_; refine HO_call rfl rfl rfl rfl (k4 x3 c3 g3) rfl (trivial) rfl rfl soA ?_; intro ⟨x4, c4⟩ g4; dsimp only [List.cons_append, List.nil_append]) | (refine HO_k 12 rfl ?_; refine HO_call rfl rfl rfl rfl (k5 x4 c4 g4) rfl (trivial) rfl rfl soA ?_; intro ⟨⟨x5, c5⟩, ⟨x6, c6⟩⟩ g5; dsimp only [List.cons_append, List.nil_append]) | exact HO_seg rfl rfl | refine S1 ?_ | (refine S2 ?_; intro _) | (refine S3 ?_; intro _ _) | (refine S4 ?_; intro _ _ _) | (refine HO_g 2 rfl ?_; (first | apply HO_and rfl rfl rfl rfl rfl rfl rfl rfl rfl | apply HO_or rfl rfl rfl rfl rfl rfl rfl rfl rfl)) | refine S5 ?_ | (intro hb; try replace hb := simB hb; try exact kill hb))
    rename_i ob
    refine HC_cond rfl rfl (fun hb => ?_) (fun hb => ?_)
    · have hn0 : recM false x.m (false, s) = none := by
        rw [hE]
        by_cases hC : bad5 = true ∨ kd ≠ 13 ∨ (false = false ∧ (tm : Int) ≠ x.m.t)
        · exact if_pos hC
        rw [if_neg hC, if_neg Bool.false_ne_true]
        refine if_neg fun h8 => ?_
        have c1 : bad5 = false := by
          cases bad5
          · rfl
          · exact absurd (.inl rfl) hC
        have c2 : (kd : Int) = 13 := by
          by_cases h : kd = 13
          · rw [h]; rfl
          · exact absurd (.inr (.inl h)) hC
        have c3 : (tm : Int) = x.t := by
          by_cases h : (tm : Int) = x.m.t
          · exact h
          · exact absurd (.inr (.inr ⟨rfl, h⟩)) hC
        subst h8
        rw [c1, c3, decide_eq_true c2] at hb
        simp at hb
      rw [hn0] at hinv
      change none = res at hinv
      subst hinv
      have hgd : none = r := hgd
      subst hgd
      repeat' (first | refine SW ?_ | ((refine HO_g 2 rfl ?_); (refine HO_skip rfl rfl rfl rfl rdA ?_)) | refine SD ?_ | exact HO_seg rfl rfl | refine S1 ?_ | (refine S2 ?_; intro _) | (refine S3 ?_; intro _ _) | (refine S4 ?_; intro _ _ _) | (refine HO_g 2 rfl ?_; (first | apply HO_and rfl rfl rfl rfl rfl rfl rfl rfl rfl | apply HO_or rfl rfl rfl rfl rfl rfl rfl rfl rfl)) | refine S5 ?_ | (intro hb; try replace hb := simB hb; try exact kill hb))
      ((first | apply HX_ret | apply HX_retn); (repeat (first | exact Res_nil | apply Res_tmp rfl | apply Res_ce rfl rfl rfl)); unfold RetQ; refine ⟨zDu, rfl, rfl, keep_z⟩)
    simp only [Bool.or_eq_false_iff, Bool.not_eq_false', decide_eq_true_eq] at hb
    obtain ⟨⟨⟨⟨c1, c2⟩, c3⟩, c4⟩, c5'⟩ := hb
    subst c1
    have c6' : sb = 8 := by omega
    have c7 : kd = 13 := by omega
    rw [if_neg (by intro h; rcases h with h | h | h; cases h; exact h c7; exact h.2 c3), if_neg Bool.false_ne_true, if_pos c6'] at hE
    have hq := qroutes_t b ob { x with t := tm } x5 c5 (false, bd) x.n (by simp only; omega) g5.1 hxr
    simp only at hq
    change _ = (match routesM tm x.n (x.routes.map RtS.q) (false, bd) with
      | none => none
      | some (qs, s') => if s'.1 = false ∧ s'.2 = [] then some ((⟨tm, x.id, x.peers, qs, x.n + 1⟩ : MSt), (false, l5)) else none) at hE
    cases hm : routesM tm x.n (x.routes.map RtS.q) (false, bd) with
    | none =>
      rw [hm] at hE hq
      simp only at hE
      dsimp only [pt, rqP, xQ, List.cons_append, List.nil_append] at hq
      rw [hE] at hinv
      change none = res at hinv
      subst hinv
      have hgd : none = r := hgd
      subst hgd
      repeat' (first | refine SW ?_ | ((refine HO_g 2 rfl ?_); (refine HO_skip rfl rfl rfl rfl rdA ?_)) | refine SD ?_ | (refine HO_k 12 rfl ?_; refine HO_keeps (rw' := rqP ob x5 c5 false bd ++ (xQ b { x with t := tm } ++ [cel rb TQ [.slice x6 l5.length c6, .bool false], arr bE 1 x6 l5, zDc br])) (by first | exact Keeps.pick 0 rfl rfl (Keeps.pickE 0 rfl rfl own_e permA) | exact Keeps.pick 1 rfl rfl (Keeps.pickE 1 rfl rfl own_e permA)) ?_; refine HO_call rfl rfl rfl rfl hq rfl trivial rfl rfl soA ?_; intro y hy; dsimp only [rqQ, rqP, xQ, zDc, pt, List.cons_append, List.nil_append]) | exact HO_seg rfl rfl | refine S1 ?_ | (refine S2 ?_; intro _) | (refine S3 ?_; intro _ _) | (refine S4 ?_; intro _ _ _) | (refine HO_g 2 rfl ?_; (first | apply HO_and rfl rfl rfl rfl rfl rfl rfl rfl rfl | apply HO_or rfl rfl rfl rfl rfl rfl rfl rfl rfl)) | refine S5 ?_ | (intro hb; try replace hb := simB hb; try exact kill hb))
      ((first | apply HX_ret | apply HX_retn); (repeat (first | exact Res_nil | apply Res_tmp rfl | apply Res_ce rfl rfl rfl)); unfold RetQ; refine ⟨zDu, rfl, rfl, keep_z⟩)
    | some qs' =>
      obtain ⟨qs, s'⟩ := qs'
      rw [hm] at hE hq
      simp only at hE
      by_cases hd : s'.1 = false ∧ s'.2 = []
      rotate_left
      · rw [if_neg hd] at hE
        have hdn : rtDone (some (qs, s')) = false := by
          unfold rtDone
          obtain ⟨b1, l1⟩ := s'
          cases b1
          · simp only [Bool.not_false, Bool.true_and]
            exact decide_eq_false fun e => hd ⟨rfl, e⟩
          · rfl
        rw [hdn] at hq
        dsimp only [pt, rqP, xQ, List.cons_append, List.nil_append] at hq
        rw [hE] at hinv
        change none = res at hinv
        subst hinv
        have hgd : none = r := hgd
        subst hgd
        repeat' (first | refine SW ?_ | ((refine HO_g 2 rfl ?_); (refine HO_skip rfl rfl rfl rfl rdA ?_)) | refine SD ?_ | (refine HO_k 12 rfl ?_; refine HO_keeps (rw' := rqP ob x5 c5 false bd ++ (xQ b { x with t := tm } ++ [cel rb TQ [.slice x6 l5.length c6, .bool false], arr bE 1 x6 l5, zDc br])) (by first | exact Keeps.pick 0 rfl rfl (Keeps.pickE 0 rfl rfl own_e permA) | exact Keeps.pick 1 rfl rfl (Keeps.pickE 1 rfl rfl own_e permA)) ?_; refine HO_call rfl rfl rfl rfl hq rfl trivial rfl rfl soA ?_; intro y hy; dsimp only [rqQ, rqP, xQ, zDc, pt, List.cons_append, List.nil_append]) | exact HO_seg rfl rfl | refine S1 ?_ | (refine S2 ?_; intro _) | (refine S3 ?_; intro _ _) | (refine S4 ?_; intro _ _ _) | (refine HO_g 2 rfl ?_; (first | apply HO_and rfl rfl rfl rfl rfl rfl rfl rfl rfl | apply HO_or rfl rfl rfl rfl rfl rfl rfl rfl rfl)) | refine S5 ?_ | (intro hb; try replace hb := simB hb; try exact kill hb))
        ((first | apply HX_ret | apply HX_retn); (repeat (first | exact Res_nil | apply Res_tmp rfl | apply Res_ce rfl rfl rfl)); unfold RetQ; refine ⟨zDu, rfl, rfl, keep_z⟩)
      rw [if_pos hd] at hE
      have hdn : rtDone (some (qs, s')) = true := by
        show (!s'.1 && decide (s'.2 = [])) = true
        rw [hd.1, hd.2]
        rfl
      rw [hdn] at hq
      dsimp only [pt, rqP, xQ, List.cons_append, List.nil_append] at hq
      rw [hE] at hinv
      change getF false _ _ = res at hinv
      repeat' (first | refine SW ?_ | ((refine HO_g 2 rfl ?_); (refine HO_skip rfl rfl rfl rfl rdA ?_)) | refine SD ?_ | (refine HO_k 12 rfl ?_; refine HO_keeps (rw' := rqP ob x5 c5 false bd ++ (xQ b { x with t := tm } ++ [cel rb TQ [.slice x6 l5.length c6, .bool false], arr bE 1 x6 l5, zDc br])) (by first | exact Keeps.pick 0 rfl rfl (Keeps.pickE 0 rfl rfl own_e permA) | exact Keeps.pick 1 rfl rfl (Keeps.pickE 1 rfl rfl own_e permA)) ?_; refine HO_call rfl rfl rfl rfl hq rfl trivial rfl rfl soA ?_; intro y hy; dsimp only [rqQ, rqP, xQ, zDc, pt, List.cons_append, List.nil_append]) | exact HO_seg rfl rfl | refine S1 ?_ | (refine S2 ?_; intro _) | (refine S3 ?_; intro _ _) | (refine S4 ?_; intro _ _ _) | (refine HO_g 2 rfl ?_; (first | apply HO_and rfl rfl rfl rfl rfl rfl rfl rfl rfl | apply HO_or rfl rfl rfl rfl rfl rfl rfl rfl rfl)) | refine S5 ?_ | (intro hb; try replace hb := simB hb; try exact kill hb))
      obtain ⟨⟨yt, yi, ypA, ypc, yp, yrA, yrc, yr, yn⟩, yA, yc, ys⟩ := y
      obtain ⟨z1, z2, ⟨z3, z4, z5⟩⟩ := hy qs s' rfl
      simp only at z1 z2 z3 z4 z5
      subst z1 z3 z4 z5
      refine HX_keeps (rw' := rqP rb x6 c6 false l5 ++ (xQ b (⟨tm, x.id, ypA, ypc, x.peers, yrA, yrc, yr, x.n + 1⟩ : RdS) ++ [zDc br])) permA ?_
      exact HX_at ⟨⟨⟨tm, x.id, ypA, ypc, x.peers, yrA, yrc, yr, x.n + 1⟩, x6, c6, (false, l5)⟩, false⟩ (next _ _ _ hE g5.2 rfl rfl hinv) ⟨rfl, rfl, rfl, rfl, rfl, rfl, rfl, trivial⟩ rfl
  · repeat' (first | refine SW ?_ | ((refine HO_g 2 rfl ?_); (refine HO_skip rfl rfl rfl rfl rdA ?_)) | refine SD ?_ | (refine HO_k 12 rfl ?_; refine HO_callq rfl rfl rfl rfl (hl) (fun _ _ => rfl) (srcsA) rfl rfl sqA ?_) | (refine HO_k 12 rfl ?_; refine HO_call rfl rfl rfl rfl (k1) rfl (trivial) rfl rfl soA ?_; intro ⟨x1, c1⟩ g1; dsimp only [List.cons_append, List.nil_append]) | (refine HO_k 12 rfl ?_; refine HO_call rfl rfl rfl rfl (k2 x1 c1 g1) rfl (trivial) rfl rfl soA ?_; intro ⟨x2, c2⟩ g2; dsimp only [List.cons_append, List.nil_append]) | (refine HO_k 12 rfl ?_; refine HO_call rfl rfl rfl rfl (k3 x2 c2 g2) rfl (trivial) rfl rfl soA ?_; intro ⟨x3, c3⟩ g3; dsimp only [List.cons_append, List.nil_append]) | (refine HO_k 12 rfl ?_; refine HO_call rfl rfl rfl rfl (k4 x3 c3 g3) rfl (trivial) rfl rfl soA ?_; intro ⟨x4, c4⟩ g4; dsimp only [List.cons_append, List.nil_append]) | (refine HO_k 12 rfl ?_; refine HO_call rfl rfl rfl rfl (k5 x4 c4 g4) rfl (trivial) rfl rfl soA ?_; intro ⟨⟨x5, c5⟩, ⟨x6, c6⟩⟩ g5; dsimp only [List.cons_append, List.nil_append]) | exact HO_seg rfl rfl | refine S1 ?_ | (refine S2 ?_; intro _) | (refine S3 ?_; intro _ _) | (refine S4 ?_; intro _ _ _) | (refine HO_g 2 rfl ?_; (first | apply HO_and rfl rfl rfl rfl rfl rfl rfl rfl rfl | apply HO_or rfl rfl rfl rfl rfl rfl rfl rfl rfl)) | refine S5 ?_ | (intro hb; try replace hb := simB hb; try exact kill hb))
    rename_i ob
    refine HC_cond rfl rfl (fun hb => ?_) (fun hb => ?_)
    · have hn0 : recM true x.m (false, s) = none := by
        rw [hE]
        by_cases hC : bad5 = true ∨ kd ≠ 13 ∨ (true = false ∧ (tm : Int) ≠ x.m.t)
        · exact if_pos hC
        rw [if_neg hC, if_pos rfl]
        refine if_neg fun h1 => ?_
        have c1 : bad5 = false := by
          cases bad5
          · rfl
          · exact absurd (.inl rfl) hC
        have c2 : (kd : Int) = 13 := by
          by_cases h : kd = 13
          · rw [h]; rfl
          · exact absurd (.inr (.inl h)) hC
        subst h1
        rw [c1, decide_eq_true c2] at hb
        simp at hb
      rw [hn0] at hinv
      change none = res at hinv
      subst hinv
      have hgd : none = r := hgd
      subst hgd
      repeat' (first | refine SW ?_ | ((refine HO_g 2 rfl ?_); (refine HO_skip rfl rfl rfl rfl rdA ?_)) | refine SD ?_ | exact HO_seg rfl rfl | refine S1 ?_ | (refine S2 ?_; intro _) | (refine S3 ?_; intro _ _) | (refine S4 ?_; intro _ _ _) | (refine HO_g 2 rfl ?_; (first | apply HO_and rfl rfl rfl rfl rfl rfl rfl rfl rfl | apply HO_or rfl rfl rfl rfl rfl rfl rfl rfl rfl)) | refine S5 ?_ | (intro hb; try replace hb := simB hb; try exact kill hb))
      ((first | apply HX_ret | apply HX_retn); (repeat (first | exact Res_nil | apply Res_tmp rfl | apply Res_ce rfl rfl rfl)); unfold RetQ; refine ⟨zDu, rfl, rfl, keep_z⟩)
    simp only [Bool.or_eq_false_iff, Bool.not_eq_false', decide_eq_true_eq] at hb
    obtain ⟨⟨⟨⟨c1, c2⟩, c3⟩, c4⟩, c5'⟩ := hb
    subst c1
    have c6' : sb = 1 := by have := of_decide_eq_true c4.symm; omega
    have c7 : kd = 13 := by omega
    rw [if_neg (by intro h; rcases h with h | h | h; cases h; exact h c7; cases h.1), if_pos rfl, if_pos c6'] at hE
    have hq := qpeers_t b ob { x with t := tm } x5 c5 (false, bd) (by simp only; omega) g5.1 (by simp only; omega)
    simp only at hq
    change _ = (match peersM x.peers (false, bd) with
      | none => none
      | some (id, ps, s') => if s'.1 = false ∧ s'.2 = [] then some ((⟨tm, id, ps, x.routes.map RtS.q, x.n⟩ : MSt), (false, l5)) else none) at hE
    cases hm : peersM x.peers (false, bd) with
    | none =>
      rw [hm] at hE hq
      simp only at hE
      dsimp only [pt, rqP, xQ, List.cons_append, List.nil_append] at hq
      rw [hE] at hinv
      change none = res at hinv
      subst hinv
      have hgd : none = r := hgd
      subst hgd
      repeat' (first | refine SW ?_ | ((refine HO_g 2 rfl ?_); (refine HO_skip rfl rfl rfl rfl rdA ?_)) | refine SD ?_ | (refine HO_k 12 rfl ?_; refine HO_keeps (rw' := rqP ob x5 c5 false bd ++ (xQ b { x with t := tm } ++ [cel rb TQ [.slice x6 l5.length c6, .bool false], arr bE 1 x6 l5, zDc br])) (by first | exact Keeps.pick 0 rfl rfl (Keeps.pickE 0 rfl rfl own_e permA) | exact Keeps.pick 1 rfl rfl (Keeps.pickE 1 rfl rfl own_e permA)) ?_; refine HO_call rfl rfl rfl rfl hq rfl trivial rfl rfl soA ?_; intro y hy; dsimp only [rqQ, rqP, xQ, zDc, pt, List.cons_append, List.nil_append]) | exact HO_seg rfl rfl | refine S1 ?_ | (refine S2 ?_; intro _) | (refine S3 ?_; intro _ _) | (refine S4 ?_; intro _ _ _) | (refine HO_g 2 rfl ?_; (first | apply HO_and rfl rfl rfl rfl rfl rfl rfl rfl rfl | apply HO_or rfl rfl rfl rfl rfl rfl rfl rfl rfl)) | refine S5 ?_ | (intro hb; try replace hb := simB hb; try exact kill hb))
      ((first | apply HX_ret | apply HX_retn); (repeat (first | exact Res_nil | apply Res_tmp rfl | apply Res_ce rfl rfl rfl)); unfold RetQ; refine ⟨zDu, rfl, rfl, keep_z⟩)
    | some qs' =>
      obtain ⟨id, ps, s'⟩ := qs'
      rw [hm] at hE hq
      simp only at hE
      by_cases hd : s'.1 = false ∧ s'.2 = []
      rotate_left
      · rw [if_neg hd] at hE
        have hdn : peDone (some (id, ps, s')) = false := by
          unfold peDone
          obtain ⟨b1, l1⟩ := s'
          cases b1
          · simp only [Bool.not_false, Bool.true_and]
            exact decide_eq_false fun e => hd ⟨rfl, e⟩
          · rfl
        rw [hdn] at hq
        dsimp only [pt, rqP, xQ, List.cons_append, List.nil_append] at hq
        rw [hE] at hinv
        change none = res at hinv
        subst hinv
        have hgd : none = r := hgd
        subst hgd
        repeat' (first | refine SW ?_ | ((refine HO_g 2 rfl ?_); (refine HO_skip rfl rfl rfl rfl rdA ?_)) | refine SD ?_ | (refine HO_k 12 rfl ?_; refine HO_keeps (rw' := rqP ob x5 c5 false bd ++ (xQ b { x with t := tm } ++ [cel rb TQ [.slice x6 l5.length c6, .bool false], arr bE 1 x6 l5, zDc br])) (by first | exact Keeps.pick 0 rfl rfl (Keeps.pickE 0 rfl rfl own_e permA) | exact Keeps.pick 1 rfl rfl (Keeps.pickE 1 rfl rfl own_e permA)) ?_; refine HO_call rfl rfl rfl rfl hq rfl trivial rfl rfl soA ?_; intro y hy; dsimp only [rqQ, rqP, xQ, zDc, pt, List.cons_append, List.nil_append]) | exact HO_seg rfl rfl | refine S1 ?_ | (refine S2 ?_; intro _) | (refine S3 ?_; intro _ _) | (refine S4 ?_; intro _ _ _) | (refine HO_g 2 rfl ?_; (first | apply HO_and rfl rfl rfl rfl rfl rfl rfl rfl rfl | apply HO_or rfl rfl rfl rfl rfl rfl rfl rfl rfl)) | refine S5 ?_ | (intro hb; try replace hb := simB hb; try exact kill hb))
        ((first | apply HX_ret | apply HX_retn); (repeat (first | exact Res_nil | apply Res_tmp rfl | apply Res_ce rfl rfl rfl)); unfold RetQ; refine ⟨zDu, rfl, rfl, keep_z⟩)
      rw [if_pos hd] at hE
      have hdn : peDone (some (id, ps, s')) = true := by
        show (!s'.1 && decide (s'.2 = [])) = true
        rw [hd.1, hd.2]
        rfl
      rw [hdn] at hq
      dsimp only [pt, rqP, xQ, List.cons_append, List.nil_append] at hq
      rw [hE] at hinv
      change getF false _ _ = res at hinv
      repeat' (first | refine SW ?_ | ((refine HO_g 2 rfl ?_); (refine HO_skip rfl rfl rfl rfl rdA ?_)) | refine SD ?_ | (refine HO_k 12 rfl ?_; refine HO_keeps (rw' := rqP ob x5 c5 false bd ++ (xQ b { x with t := tm } ++ [cel rb TQ [.slice x6 l5.length c6, .bool false], arr bE 1 x6 l5, zDc br])) (by first | exact Keeps.pick 0 rfl rfl (Keeps.pickE 0 rfl rfl own_e permA) | exact Keeps.pick 1 rfl rfl (Keeps.pickE 1 rfl rfl own_e permA)) ?_; refine HO_call rfl rfl rfl rfl hq rfl trivial rfl rfl soA ?_; intro y hy; dsimp only [rqQ, rqP, xQ, zDc, pt, List.cons_append, List.nil_append]) | exact HO_seg rfl rfl | refine S1 ?_ | (refine S2 ?_; intro _) | (refine S3 ?_; intro _ _) | (refine S4 ?_; intro _ _ _) | (refine HO_g 2 rfl ?_; (first | apply HO_and rfl rfl rfl rfl rfl rfl rfl rfl rfl | apply HO_or rfl rfl rfl rfl rfl rfl rfl rfl rfl)) | refine S5 ?_ | (intro hb; try replace hb := simB hb; try exact kill hb))
      obtain ⟨⟨yt, yi, ypA, ypc, yp, yrA, yrc, yr, yn⟩, yA, yc, ys⟩ := y
      obtain ⟨z1, z2, z3, z4⟩ := hy id ps s' rfl
      simp only at z1 z2 z3 z4
      subst z1 z2 z3 z4
      refine HX_keeps (rw' := rqP rb x6 c6 false l5 ++ (xQ b (⟨tm, yi, ypA, ypc, yp, yrA, yrc, x.routes, x.n⟩ : RdS) ++ [zDc br])) permA ?_
      exact HX_at ⟨⟨⟨tm, yi, ypA, ypc, yp, yrA, yrc, x.routes, x.n⟩, x6, c6, (false, l5)⟩, false⟩ (next _ _ _ hE g5.2 rfl rfl hinv) ⟨rfl, rfl, rfl, rfl, rfl, rfl, rfl, trivial⟩ rfl
end Go.Proofs.YtdeeokkkcfkbjaaGreat
