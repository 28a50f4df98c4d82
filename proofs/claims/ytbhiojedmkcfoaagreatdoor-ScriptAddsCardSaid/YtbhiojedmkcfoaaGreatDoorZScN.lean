/- Part of a proof of many texts: what the theorem at its end leans on. -/
import Derived.Test.YtbhiojedmkcfoaaGreatDoorZScM
namespace Go.Proofs.YtbhiojedmkcfoaaGreatDoor
set_option linter.unusedVariables false
set_option linter.unusedSimpArgs false
open Go.RowKit
attribute [local irreducible] HC HX HO Tri eP adr
set_option maxHeartbeats 16000000 in
theorem rcarries_t (b b1 : Nat) (x : OA) (bad wr : Bool) (l : List UInt8) (hb : l.length ≤ 1000000000) (hc : l.length ≤ x.2) :
  Tri Tryz.prog 181 [pt b] [] (rsP b b1 x bad wr l) (fun y : OA × OA => (rdC (rdH bad l).2.2.1 (rdH bad l).2.2.2.1 wr (rdH bad l).2.2.2.2).2.2.2.length ≤ y.1.2)
   (fun y => .agg #[.int .i64 (rdH bad l).1, .int .i64 (rdH bad l).2.1, .slice y.2.1 (rdC (rdH bad l).2.2.1 (rdH bad l).2.2.2.1 wr (rdH bad l).2.2.2.2).1.length y.2.2])
   (fun y => rsP b b1 y.1 (rdC (rdH bad l).2.2.1 (rdH bad l).2.2.2.1 wr (rdH bad l).2.2.2.2).2.1 (rdC (rdH bad l).2.2.1 (rdH bad l).2.2.2.1 wr (rdH bad l).2.2.2.2).2.2.1 (rdC (rdH bad l).2.2.1 (rdH bad l).2.2.2.1 wr (rdH bad l).2.2.2.2).2.2.2 ++ [own idE 174 3 y.2.1 (rdC (rdH bad l).2.2.1 (rdH bad l).2.2.2.1 wr (rdH bad l).2.2.2.2).1.length y.2.2 ((rdC (rdH bad l).2.2.1 (rdH bad l).2.2.2.1 wr (rdH bad l).2.2.2.2).1.map CarQ.e)]) := by
 unfold rdH
 dsimp only
 have n1 := rnumN_t b1 x bad l 1 (by decide) hb hc
 have k1 := rdN_lt bad l 1 (by decide)
 obtain ⟨⟨s, bad1, l1⟩, hr1⟩ : ∃ r, rdN bad l 1 = r := ⟨_, rfl⟩
 rw [hr1] at n1 k1 ⊢
 dsimp only at n1 k1 ⊢
 have n2 := fun x hx => rnumN_t b1 x bad1 l1 4 (by decide) (by omega) hx
 have k2 := rdN_lt bad1 l1 4 (by decide)
 obtain ⟨⟨q, bad2, l2⟩, hr2⟩ : ∃ r, rdN bad1 l1 4 = r := ⟨_, rfl⟩
 rw [hr2] at n2 k2 ⊢
 dsimp only at n2 k2 ⊢
 have n3 := fun x hx => rnumN_t b1 x bad2 l2 1 (by decide) (by omega) hx
 have k3 := rdN_lt bad2 l2 1 (by decide)
 obtain ⟨⟨m, bad3, l3⟩, hr3⟩ : ∃ r, rdN bad2 l2 1 = r := ⟨_, rfl⟩
 rw [hr3] at n3 k3 ⊢
 dsimp only at n3 k3 ⊢
 clear hr1 hr2 hr3
 dsimp only [rsP, rdP] at n1 n2 n3 ⊢
 refine Tri_of (N := Tryz.f181.ntmps) (c := bodyOf Tryz.f181) Tryz.func181 rfl rfl rfl rfl (fun w0 S0 => ?_)
 repeat' (first | refine SW ?_ | refine SD ?_ | exact HO_seg rfl rfl | refine S1 ?_ | (refine S2 ?_; intro _) | (refine S3 ?_; intro _ _) | (refine S4 ?_; intro _ _ _) | (refine HO_g 2 rfl ?_; first | apply HO_a1 rfl | apply HO_o1 rfl) | refine S5n ?_ | (intro hb; try replace hb := simB hb; try exact kill hb))
 rename_i b2
 refine HC_cutP (α := OA × Nat) (fun z => l2.length ≤ z.1.2) (fun z => [(3, pt z.2), (2, pt b2), (0, pt b)]) (fun z => rsP b b1 z.1 bad2 wr l2 ++ [cel z.2 95 [.int .i64 s, .int .i64 q, .slice none 0 0], cel b2 95 [.int .i64 0, .int .i64 0, .slice none 0 0]]) ?_ ?_
 ·repeat' (first | refine SW ?_ | refine SD ?_ | (first | refine HO_2p 4 11 (by decide +kernel) rfl rfl (by decide +kernel) ?_ ?_ | refine HO_2p 9 11 (by decide +kernel) rfl rfl (by decide +kernel) ?_ ?_) | (refine HO_k 12 rfl ?_; refine HO_call rfl rfl rfl rfl (n1) rfl (trivial) rfl rfl soA ?_; intro x1 hx1; dsimp only [lca, lna]) | (refine HO_k 12 rfl ?_; refine HO_mv 2 rfl rfl ?_; refine HO_mv 2 rfl rfl ?_; refine HO_call rfl rfl rfl rfl (n1) rfl (trivial) rfl rfl soA ?_; intro x1 hx1; dsimp only [lca, lna]) | (refine HO_k 12 rfl ?_; refine HO_mv 3 rfl rfl ?_; refine HO_mv 3 rfl rfl ?_; refine HO_call rfl rfl rfl rfl (n1) rfl (trivial) rfl rfl soA ?_; intro x1 hx1; dsimp only [lca, lna]) | (refine HO_k 12 rfl ?_; refine HO_call rfl rfl rfl rfl (n2 _ hx1) rfl (trivial) rfl rfl soA ?_; intro x2 hx2; dsimp only [lca, lna]) | (refine HO_k 12 rfl ?_; refine HO_mv 2 rfl rfl ?_; refine HO_mv 2 rfl rfl ?_; refine HO_call rfl rfl rfl rfl (n2 _ hx1) rfl (trivial) rfl rfl soA ?_; intro x2 hx2; dsimp only [lca, lna]) | (refine HO_k 12 rfl ?_; refine HO_mv 3 rfl rfl ?_; refine HO_mv 3 rfl rfl ?_; refine HO_call rfl rfl rfl rfl (n2 _ hx1) rfl (trivial) rfl rfl soA ?_; intro x2 hx2; dsimp only [lca, lna]) | exact HO_seg rfl rfl | refine S1 ?_ | (refine S2 ?_; intro _) | (refine S3 ?_; intro _ _) | (refine S4 ?_; intro _ _ _) | (refine HO_g 2 rfl ?_; first | apply HO_a1 rfl | apply HO_o1 rfl) | refine S5 ?_ | (intro hb; try replace hb := simB hb; try exact kill hb))
  all_goals
   rename_i b3
   refine HX_keeps (rw' := rsP b b1 x2 bad2 wr l2 ++ [cel b3 95 [.int .i64 s, .int .i64 q, .slice none 0 0], cel b2 95 [.int .i64 0, .int .i64 0, .slice none 0 0]]) permA ?_
   exact HX_at (x2, b3) hx2 ⟨rfl, rfl, rfl, trivial⟩ rfl
 rintro ⟨x2, b3⟩ hx2
 clear n1 n2
 dsimp only [rsP, rdP, lca, lna] at hx2 ⊢
 repeat' (first | refine SW ?_ | refine SD ?_ | (refine HO_k 12 rfl ?_; refine HO_call rfl rfl rfl rfl (n3 _ hx2) rfl (trivial) rfl rfl soA ?_; intro x3 hx3; dsimp only [lca, lna]) | (refine HO_k 12 rfl ?_; refine HO_mv 2 rfl rfl ?_; refine HO_mv 2 rfl rfl ?_; refine HO_call rfl rfl rfl rfl (n3 _ hx2) rfl (trivial) rfl rfl soA ?_; intro x3 hx3; dsimp only [lca, lna]) | (refine HO_k 12 rfl ?_; refine HO_mv 3 rfl rfl ?_; refine HO_mv 3 rfl rfl ?_; refine HO_call rfl rfl rfl rfl (n3 _ hx2) rfl (trivial) rfl rfl soA ?_; intro x3 hx3; dsimp only [lca, lna]) | exact HO_seg rfl rfl | refine S1 ?_ | (refine S2 ?_; intro _) | (refine S3 ?_; intro _ _) | (refine S4 ?_; intro _ _ _) | (refine HO_g 2 rfl ?_; first | apply HO_a1 rfl | apply HO_o1 rfl) | refine S5n ?_ | (intro hb; try replace hb := simB hb; try exact kill hb))
 clear n3
 refine HC_keeps (rw' := own idE 174 3 none 0 0 [] :: (rsP b b1 x3 bad3 wr l3 ++ [cel b3 95 [.int .i64 s, .int .i64 q, .slice none 0 0], cel b2 95 [.int .i64 0, .int .i64 0, .slice none 0 0]])) (Keeps.add (fun w => own_nil w) permA) ?_
 refine HC_keeps (rw' := rsP b b1 x3 bad3 wr l3 ++ [cel b3 95 [.int .i64 s, .int .i64 q, .slice none 0 0], own idE 174 3 none 0 0 [], cel b2 95 [.int .i64 0, .int .i64 0, .slice none 0 0]]) permA ?_
 refine HC_loop (α := Nat × Bool × Bool × List UInt8 × List CarQ × OA × OA) (fun y => y.2.2.2.2.1 ++ (rdC y.1 y.2.1 y.2.2.1 y.2.2.2.1).1 = (rdC m bad3 wr l3).1 ∧ (rdC y.1 y.2.1 y.2.2.1 y.2.2.2.1).2 = (rdC m bad3 wr l3).2 ∧ y.2.2.2.1.length ≤ 1000000000 ∧ y.2.2.2.1.length ≤ y.2.2.2.2.2.1.2 ∧ y.1 + y.2.2.2.2.1.length ≤ 255)
  (fun y => [(4, .int .i64 y.1), (3, pt b3), (2, pt b2), (0, pt b)])
  (fun y => rsP b b1 y.2.2.2.2.2.1 y.2.1 y.2.2.1 y.2.2.2.1 ++ [cel b3 95 [.int .i64 s, .int .i64 q, .slice y.2.2.2.2.2.2.1 y.2.2.2.2.1.length y.2.2.2.2.2.2.2], own idE 174 3 y.2.2.2.2.2.2.1 y.2.2.2.2.1.length y.2.2.2.2.2.2.2 (y.2.2.2.2.1.map CarQ.e), cel b2 95 [.int .i64 0, .int .i64 0, .slice none 0 0]])
  (fun y => y.1) rfl (m, bad3, wr, l3, [], x3, (none, 0)) ⟨rfl, rfl, by dsimp only; omega, hx3, by simp; omega⟩ ⟨rfl, rfl, rfl, rfl, trivial⟩ rfl ?_
 rintro ⟨n, bd, w, l', acc, xo, ao⟩ hinv
 obtain ⟨i1, i2, i3, i4, i5⟩ := hinv
 dsimp only [rsP, rdP, lca, lna] at i1 i2 i3 i4 i5 ⊢
 by_cases hx : n = 0 ∨ bd = true ∨ w = true
 ·have hexit : rdC n bd w l' = ([], bd, w, l') := by
   cases n with
   | zero => rfl
   | succ n =>
    refine rdC_stop ?_
    rcases hx with h | h | h
    ·omega
    ·simp [h]
    ·simp [h]
  rw [hexit, List.append_nil] at i1
  rw [hexit] at i2
  rw [← i1, ← i2]
  have hB := nbad_t b1 xo.1 l'.length xo.2 bd
  by_cases hn0 : n = 0
  ·subst hn0
   repeat' (first | refine SW ?_ | refine SD ?_ | exact HO_seg rfl rfl | refine S1 ?_ | (refine S2 ?_; intro _) | (refine S3 ?_; intro _ _) | (refine S4 ?_; intro _ _ _) | (refine HO_g 2 rfl ?_; first | apply HO_a1 rfl | apply HO_o1 rfl) | refine S5 ?_ | (intro hb; try replace hb := simB hb; try exact kill hb))
   (refine SR ?_; unfold RetQ; refine ⟨(xo, ao), i4, rfl, permA⟩)
  ·have hn : (0 : Int) < n := by omega
   cases bd with
   | false =>
    obtain rfl : w = true := by simpa [hn0] using hx
    repeat' (first | refine SW ?_ | ((refine HO_g 2 rfl ?_); (refine HO_skip rfl rfl rfl rfl rdA ?_)) | refine SD ?_ | (refine HO_k 12 rfl ?_; refine HO_callq rfl rfl rfl rfl (hB) (fun _ _ => rfl) (srcsA) rfl rfl sqA ?_) | exact HO_seg rfl rfl | refine S1 ?_ | (refine S2 ?_; intro _) | (refine S3 ?_; intro _ _) | (refine S4 ?_; intro _ _ _) | (refine HO_g 2 rfl ?_; first | apply HO_a1 rfl | apply HO_o1 rfl) | refine S5 ?_ | (intro hb; try replace hb := simB hb; try exact kill hb))
    (refine SR ?_; unfold RetQ; refine ⟨(xo, ao), i4, rfl, permA⟩)
   | true =>
    repeat' (first | refine SW ?_ | ((refine HO_g 2 rfl ?_); (refine HO_skip rfl rfl rfl rfl rdA ?_)) | refine SD ?_ | (refine HO_k 12 rfl ?_; refine HO_callq rfl rfl rfl rfl (hB) (fun _ _ => rfl) (srcsA) rfl rfl sqA ?_) | exact HO_seg rfl rfl | refine S1 ?_ | (refine S2 ?_; intro _) | (refine S3 ?_; intro _ _) | (refine S4 ?_; intro _ _ _) | (refine HO_g 2 rfl ?_; first | apply HO_a1 rfl | apply HO_o1 rfl) | refine S5 ?_ | (intro hb; try replace hb := simB hb; try exact kill hb))
    (refine SR ?_; unfold RetQ; refine ⟨(xo, ao), i4, rfl, permA⟩)
 ·obtain ⟨hn0, hbd, hw⟩ : n ≠ 0 ∧ bd = false ∧ w = false := by
   simp only [not_or, Bool.not_eq_true] at hx
   exact hx
  subst hbd hw
  obtain ⟨n, rfl⟩ : ∃ k, n = k + 1 := ⟨n - 1, by omega⟩
  have hB := nbad_t b1 xo.1 l'.length xo.2 false
  have hn : (0 : Int) < ((n + 1 : Nat) : Int) := by omega
  have hn1 : ((n + 1 : Nat) : Int) - 1 = (n : Int) := by omega
  have hun : rdC (n + 1) false false l' = (⟨(rdN false l' 4).1, (rdN (rdN false l' 4).2.1 (rdN false l' 4).2.2 4).1, decide ((rdN (rdN (rdN false l' 4).2.1 (rdN false l' 4).2.2 4).2.1 (rdN (rdN false l' 4).2.1 (rdN false l' 4).2.2 4).2.2 1).1 = 1)⟩ ::
    (rdC n (rdN (rdN (rdN false l' 4).2.1 (rdN false l' 4).2.2 4).2.1 (rdN (rdN false l' 4).2.1 (rdN false l' 4).2.2 4).2.2 1).2.1 (decide ((rdN (rdN (rdN false l' 4).2.1 (rdN false l' 4).2.2 4).2.1 (rdN (rdN false l' 4).2.1 (rdN false l' 4).2.2 4).2.2 1).1 > 1)) (rdN (rdN (rdN false l' 4).2.1 (rdN false l' 4).2.2 4).2.1 (rdN (rdN false l' 4).2.1 (rdN false l' 4).2.2 4).2.2 1).2.2).1,
    (rdC n (rdN (rdN (rdN false l' 4).2.1 (rdN false l' 4).2.2 4).2.1 (rdN (rdN false l' 4).2.1 (rdN false l' 4).2.2 4).2.2 1).2.1 (decide ((rdN (rdN (rdN false l' 4).2.1 (rdN false l' 4).2.2 4).2.1 (rdN (rdN false l' 4).2.1 (rdN false l' 4).2.2 4).2.2 1).1 > 1)) (rdN (rdN (rdN false l' 4).2.1 (rdN false l' 4).2.2 4).2.1 (rdN (rdN false l' 4).2.1 (rdN false l' 4).2.2 4).2.2 1).2.2).2) := by
   conv => lhs; unfold rdC
   rw [if_neg (by decide)]
   rfl
  rw [hun] at i1 i2
  clear hun
  have n1 := rnumN_t b1 xo false l' 4 (by decide) i3 i4
  have k1 := rdN_lt false l' 4 (by decide)
  obtain ⟨⟨v1, bad4, l4⟩, hr1⟩ : ∃ r, rdN false l' 4 = r := ⟨_, rfl⟩
  rw [hr1] at n1 k1 i1 i2
  dsimp only at n1 k1 i1 i2
  have n2 := fun x hx => rnumN_t b1 x bad4 l4 4 (by decide) (by omega) hx
  have k2 := rdN_lt bad4 l4 4 (by decide)
  obtain ⟨⟨v2, bad5, l5⟩, hr2⟩ : ∃ r, rdN bad4 l4 4 = r := ⟨_, rfl⟩
  rw [hr2] at n2 k2 i1 i2
  dsimp only at n2 k2 i1 i2
  have n3 := fun x hx => rnumN_t b1 x bad5 l5 1 (by decide) (by omega) hx
  have k3 := rdN_lt bad5 l5 1 (by decide)
  obtain ⟨⟨v3, bad6, l6⟩, hr3⟩ : ∃ r, rdN bad5 l5 1 = r := ⟨_, rfl⟩
  rw [hr3] at n3 k3 i1 i2
  dsimp only at n3 k3 i1 i2
  clear hr1 hr2 hr3
  dsimp only [rsP, rdP] at n1 n2 n3
  repeat' (first | refine SW ?_ | ((refine HO_g 2 rfl ?_); (refine HO_skip rfl rfl rfl rfl rdA ?_)) | refine SD ?_ | (refine HO_k 12 rfl ?_; refine HO_callq rfl rfl rfl rfl (hB) (fun _ _ => rfl) (srcsA) rfl rfl sqA ?_) | exact HO_seg rfl rfl | refine S1 ?_ | (refine S2 ?_; intro _) | (refine S3 ?_; intro _ _) | (refine S4 ?_; intro _ _ _) | (refine HO_g 2 rfl ?_; first | apply HO_a1 rfl | apply HO_o1 rfl) | refine S5n ?_ | (intro hb; try replace hb := simB hb; try exact kill hb))
  refine HC_cutP (α := OA × Nat) (fun z => l5.length ≤ z.1.2) (fun z => [(5, pt z.2), (4, .int .i64 ((n + 1 : Nat) : Int)), (3, pt b3), (2, pt b2), (0, pt b)]) (fun z => rsP b b1 z.1 bad5 false l5 ++ [cel z.2 174 [.int .i64 v1, .int .i64 v2, .bool false], cel b3 95 [.int .i64 s, .int .i64 q, .slice ao.1 acc.length ao.2], own idE 174 3 ao.1 acc.length ao.2 (acc.map CarQ.e), cel b2 95 [.int .i64 0, .int .i64 0, .slice none 0 0]]) ?_ ?_
  ·repeat' (first | refine SW ?_ | refine SD ?_ | (first | refine HO_2p 4 11 (by decide +kernel) rfl rfl (by decide +kernel) ?_ ?_ | refine HO_2p 9 11 (by decide +kernel) rfl rfl (by decide +kernel) ?_ ?_) | (refine HO_k 12 rfl ?_; refine HO_call rfl rfl rfl rfl (n1) rfl (trivial) rfl rfl soA ?_; intro x1 hx1; dsimp only [lca, lna]) | (refine HO_k 12 rfl ?_; refine HO_mv 2 rfl rfl ?_; refine HO_mv 2 rfl rfl ?_; refine HO_call rfl rfl rfl rfl (n1) rfl (trivial) rfl rfl soA ?_; intro x1 hx1; dsimp only [lca, lna]) | (refine HO_k 12 rfl ?_; refine HO_mv 3 rfl rfl ?_; refine HO_mv 3 rfl rfl ?_; refine HO_call rfl rfl rfl rfl (n1) rfl (trivial) rfl rfl soA ?_; intro x1 hx1; dsimp only [lca, lna]) | (refine HO_k 12 rfl ?_; refine HO_call rfl rfl rfl rfl (n2 _ hx1) rfl (trivial) rfl rfl soA ?_; intro x2 hx2; dsimp only [lca, lna]) | (refine HO_k 12 rfl ?_; refine HO_mv 2 rfl rfl ?_; refine HO_mv 2 rfl rfl ?_; refine HO_call rfl rfl rfl rfl (n2 _ hx1) rfl (trivial) rfl rfl soA ?_; intro x2 hx2; dsimp only [lca, lna]) | (refine HO_k 12 rfl ?_; refine HO_mv 3 rfl rfl ?_; refine HO_mv 3 rfl rfl ?_; refine HO_call rfl rfl rfl rfl (n2 _ hx1) rfl (trivial) rfl rfl soA ?_; intro x2 hx2; dsimp only [lca, lna]) | exact HO_seg rfl rfl | refine S1 ?_ | (refine S2 ?_; intro _) | (refine S3 ?_; intro _ _) | (refine S4 ?_; intro _ _ _) | (refine HO_g 2 rfl ?_; first | apply HO_a1 rfl | apply HO_o1 rfl) | refine S5 ?_ | (intro hb; try replace hb := simB hb; try exact kill hb))
   all_goals
    rename_i b5
    refine HX_keeps (rw' := rsP b b1 x2 bad5 false l5 ++ [cel b5 174 [.int .i64 v1, .int .i64 v2, .bool false], cel b3 95 [.int .i64 s, .int .i64 q, .slice ao.1 acc.length ao.2], own idE 174 3 ao.1 acc.length ao.2 (acc.map CarQ.e), cel b2 95 [.int .i64 0, .int .i64 0, .slice none 0 0]]) permA ?_
    exact HX_at (x2, b5) hx2 ⟨rfl, rfl, rfl, rfl, rfl, trivial⟩ rfl
  rintro ⟨x2, b5⟩ hx2
  clear n1 n2 hB
  dsimp only [rsP, rdP, lca, lna] at hx2 ⊢
  have hv : ((v3 : Nat) : Int) ≤ 255 := by
   have := k3.1
   omega
  have ed1 : decide ((v3 : Int) = 1) = decide (v3 = 1) := decide_eq_decide.2 (by omega)
  have ed2 : decide ((1 : Int) < (v3 : Int)) = decide (v3 > 1) := decide_eq_decide.2 (by omega)
  have haL : acc.length ≤ 255 := by omega
  repeat' (first | refine SW ?_ | refine SD ?_ | (refine HO_k 12 rfl ?_; refine HO_mv 2 rfl rfl ?_; refine HO_mv 2 rfl rfl ?_; refine HO_call rfl rfl rfl rfl (n3 _ hx2) rfl (trivial) rfl rfl soA ?_; intro x3 hx3; dsimp only [lca, lna]) | (refine HO_k 11 rfl ?_; refine HO_appw rfl rfl rfl rfl rfl rfl rfl rfl ?h1 ?h2 rfl rfl ?h3 ?h4 rfl rfl rfl ?h5 ?_; (case h1 => simp only [List.length_append, List.length_map, List.length_cons, List.length_nil, be_length]); (case h2 => repeat (first | exact WfL.nil | exact WfL.map | apply WfL.append | refine WfL.cons rfl rfl ?_ | assumption)); (case h3 => (try simp only [List.length_append, List.length_map, List.length_cons, List.length_nil, be_length]); (try omega)); (case h4 => (try simp only [List.length_append, List.length_map, List.length_cons, List.length_nil, be_length]); (try omega)); (case h5 => exact soA); intro _ _) | exact HO_seg rfl rfl | refine S1 ?_ | (refine S2 ?_; intro _) | (refine S3 ?_; intro _ _) | (refine S4 ?_; intro _ _ _) | (refine HO_g 2 rfl ?_; first | apply HO_a1 rfl | apply HO_o1 rfl) | refine S5 ?_ | (intro hb; try replace hb := simB hb; try exact kill hb))
  rename_i b6 A4 c4
  rw [hn1, ed1, ed2]
  have eL : acc.length + 1 = (acc ++ [(⟨v1, v2, decide (v3 = 1)⟩ : CarQ)]).length := by simp
  refine HX_keeps (rw' := rsP b b1 x3 bad6 (decide (v3 > 1)) l6 ++ [cel b3 95 [.int .i64 s, .int .i64 q, .slice A4 (acc ++ [(⟨v1, v2, decide (v3 = 1)⟩ : CarQ)]).length c4], own idE 174 3 A4 (acc ++ [(⟨v1, v2, decide (v3 = 1)⟩ : CarQ)]).length c4 ((acc ++ [(⟨v1, v2, decide (v3 = 1)⟩ : CarQ)]).map CarQ.e), cel b2 95 [.int .i64 0, .int .i64 0, .slice none 0 0]]) ?_ ?_
  ·rw [← eL, List.map_append]
   exact permA
  ·exact HX_at (n, bad6, decide (v3 > 1), l6, acc ++ [(⟨v1, v2, decide (v3 = 1)⟩ : CarQ)], x3, (A4, c4)) ⟨⟨by simpa [List.append_assoc] using i1, i2, by dsimp only; omega, hx3, by simp; omega⟩, Nat.lt_succ_self n⟩ ⟨rfl, rfl, rfl, rfl, trivial⟩ rfl
end Go.Proofs.YtbhiojedmkcfoaaGreatDoor
