/- Part of a proof of many texts: what the theorem at its end leans on. -/
import Derived.Test.YtbhiojedmkcfoaaGreatDoorZScM
namespace Go.Proofs.YtbhiojedmkcfoaaGreatDoor
set_option linter.unusedVariables false
set_option linter.unusedSimpArgs false
open Go.RowKit
attribute [local irreducible] HC HX HO Tri eP adr
theorem SYScR {p q : Prop} (hq : q) (h : q → p := by intro hq; refine HO_k 3 rfl ?_; exact HO_lastG (by decide +kernel) rfl rfl (by decide +kernel) (by decide +kernel) rfl hq) : p := h hq
theorem pfx_len (bad wr : Bool) (l : List UInt8) : (pfxF bad wr l).2.2.2.length ≤ l.length := by
 unfold pfxF
 dsimp only
 have h1 := (rdB_len bad l 1).2
 have h2 := (rdB_len (rdB bad l 1).2.1 (rdB bad l 1).2.2 ((((ngetR (rdB bad l 1).1).1.toNat + 7) / 8 : Nat) : Int)).2
 omega
set_option maxHeartbeats 1000000000 in
theorem rcounts_t (b b1 : Nat) (x : OA) (bad wr : Bool) (l : List UInt8) (hb : l.length ≤ 1000000000) (hc : l.length ≤ x.2) :
  Tri Tryz.prog 180 [pt b] [] (rsP b b1 x bad wr l) (fun y : OA × OA => (rdK (rdH bad l).2.2.1 (rdH bad l).2.2.2.1 wr (rdH bad l).2.2.2.2).2.2.2.length ≤ y.1.2)
   (fun y => .agg #[.int .i64 (rdH bad l).1, .int .i64 (rdH bad l).2.1, .slice y.2.1 (rdK (rdH bad l).2.2.1 (rdH bad l).2.2.2.1 wr (rdH bad l).2.2.2.2).1.length y.2.2])
   (fun y => rsP b b1 y.1 (rdK (rdH bad l).2.2.1 (rdH bad l).2.2.2.1 wr (rdH bad l).2.2.2.2).2.1 (rdK (rdH bad l).2.2.1 (rdH bad l).2.2.2.1 wr (rdH bad l).2.2.2.2).2.2.1 (rdK (rdH bad l).2.2.1 (rdH bad l).2.2.2.1 wr (rdH bad l).2.2.2.2).2.2.2 ++ [own idE 259 3 y.2.1 (rdK (rdH bad l).2.2.1 (rdH bad l).2.2.2.1 wr (rdH bad l).2.2.2.2).1.length y.2.2 ((rdK (rdH bad l).2.2.1 (rdH bad l).2.2.2.1 wr (rdH bad l).2.2.2.2).1.map CntQ.e)]) := by
 unfold rdH
 dsimp only
 have n1 := rnumN_t b1 x bad l 1 (by decide) hb hc
 have k1 := rdN_lt bad l 1 (by decide)
 obtain ⟨⟨s, bad1, l1⟩, hr1⟩ : ∃ r, rdN bad l 1 = r := ⟨_, rfl⟩
 rw [hr1] at n1 k1 ⊢
 dsimp only at n1 k1 ⊢
 have n2 := fun x hx => rnumN_t b1 x bad1 l1 4 (by decide) (by omega) hx
 have k2 := rdN_lt bad1 l1 4 (by decide)
 obtain ⟨⟨q, bad2, l2⟩, hr2⟩ : ∃ r, rdN bad1 l1 4 = r := ⟨_, rfl⟩
 rw [hr2] at n2 k2 ⊢
 dsimp only at n2 k2 ⊢
 have n3 := fun x hx => rnumN_t b1 x bad2 l2 1 (by decide) (by omega) hx
 have k3 := rdN_lt bad2 l2 1 (by decide)
 obtain ⟨⟨m, bad3, l3⟩, hr3⟩ : ∃ r, rdN bad2 l2 1 = r := ⟨_, rfl⟩
 rw [hr3] at n3 k3 ⊢
 dsimp only at n3 k3 ⊢
 clear hr1 hr2 hr3
 dsimp only [rsP, rdP] at n1 n2 n3 ⊢
 refine Tri_of (N := Tryz.f180.ntmps) (c := bodyOf Tryz.f180) Tryz.func180 rfl rfl rfl rfl (fun w0 S0 => ?_)
 repeat' (first | refine SW ?_ | refine SD ?_ | exact HO_seg rfl rfl | refine S1 ?_ | (refine S2 ?_; intro _) | (refine S3 ?_; intro _ _) | (refine S4 ?_; intro _ _ _) | (refine HO_g 2 rfl ?_; first | apply HO_a1 rfl | apply HO_o1 rfl) | refine SYScR ?_ | refine S5n ?_ | (intro hb; try replace hb := simB hb; try exact kill hb))
 rename_i b2
 refine HC_cutP (α := OA × Nat) (fun z => l2.length ≤ z.1.2) (fun z => [(3, pt z.2), (2, pt b2), (0, pt b)]) (fun z => rsP b b1 z.1 bad2 wr l2 ++ [cel z.2 92 [.int .i64 s, .int .i64 q, .slice none 0 0], cel b2 92 [.int .i64 0, .int .i64 0, .slice none 0 0]]) ?_ ?_
 ·repeat' (first | refine SW ?_ | refine SD ?_ | (first | refine HO_2p 4 11 (by decide +kernel) rfl rfl (by decide +kernel) ?_ ?_ | refine HO_2p 9 11 (by decide +kernel) rfl rfl (by decide +kernel) ?_ ?_) | (refine HO_k 12 rfl ?_; refine HO_call rfl rfl rfl rfl (n1) rfl (trivial) rfl rfl soA ?_; intro x1 hx1; dsimp only [lca, lna]) | (refine HO_k 12 rfl ?_; refine HO_mv 2 rfl rfl ?_; refine HO_mv 2 rfl rfl ?_; refine HO_call rfl rfl rfl rfl (n1) rfl (trivial) rfl rfl soA ?_; intro x1 hx1; dsimp only [lca, lna]) | (refine HO_k 12 rfl ?_; refine HO_mv 3 rfl rfl ?_; refine HO_mv 3 rfl rfl ?_; refine HO_call rfl rfl rfl rfl (n1) rfl (trivial) rfl rfl soA ?_; intro x1 hx1; dsimp only [lca, lna]) | (refine HO_k 12 rfl ?_; refine HO_call rfl rfl rfl rfl (n2 _ hx1) rfl (trivial) rfl rfl soA ?_; intro x2 hx2; dsimp only [lca, lna]) | (refine HO_k 12 rfl ?_; refine HO_mv 2 rfl rfl ?_; refine HO_mv 2 rfl rfl ?_; refine HO_call rfl rfl rfl rfl (n2 _ hx1) rfl (trivial) rfl rfl soA ?_; intro x2 hx2; dsimp only [lca, lna]) | (refine HO_k 12 rfl ?_; refine HO_mv 3 rfl rfl ?_; refine HO_mv 3 rfl rfl ?_; refine HO_call rfl rfl rfl rfl (n2 _ hx1) rfl (trivial) rfl rfl soA ?_; intro x2 hx2; dsimp only [lca, lna]) | exact HO_seg rfl rfl | refine S1 ?_ | (refine S2 ?_; intro _) | (refine S3 ?_; intro _ _) | (refine S4 ?_; intro _ _ _) | (refine HO_g 2 rfl ?_; first | apply HO_a1 rfl | apply HO_o1 rfl) | refine SYScR ?_ | refine S5 ?_ | (intro hb; try replace hb := simB hb; try exact kill hb))
  all_goals
   rename_i b3
   refine HX_keeps (rw' := rsP b b1 x2 bad2 wr l2 ++ [cel b3 92 [.int .i64 s, .int .i64 q, .slice none 0 0], cel b2 92 [.int .i64 0, .int .i64 0, .slice none 0 0]]) permA ?_
   exact HX_at (x2, b3) hx2 ⟨rfl, rfl, rfl, trivial⟩ rfl
 rintro ⟨x2, b3⟩ hx2
 clear n1 n2
 dsimp only [rsP, rdP, lca, lna] at hx2 ⊢
 repeat' (first | refine SW ?_ | refine SD ?_ | (refine HO_k 12 rfl ?_; refine HO_call rfl rfl rfl rfl (n3 _ hx2) rfl (trivial) rfl rfl soA ?_; intro x3 hx3; dsimp only [lca, lna]) | (refine HO_k 12 rfl ?_; refine HO_mv 2 rfl rfl ?_; refine HO_mv 2 rfl rfl ?_; refine HO_call rfl rfl rfl rfl (n3 _ hx2) rfl (trivial) rfl rfl soA ?_; intro x3 hx3; dsimp only [lca, lna]) | (refine HO_k 12 rfl ?_; refine HO_mv 3 rfl rfl ?_; refine HO_mv 3 rfl rfl ?_; refine HO_call rfl rfl rfl rfl (n3 _ hx2) rfl (trivial) rfl rfl soA ?_; intro x3 hx3; dsimp only [lca, lna]) | exact HO_seg rfl rfl | refine S1 ?_ | (refine S2 ?_; intro _) | (refine S3 ?_; intro _ _) | (refine S4 ?_; intro _ _ _) | (refine HO_g 2 rfl ?_; first | apply HO_a1 rfl | apply HO_o1 rfl) | refine SYScR ?_ | refine S5n ?_ | (intro hb; try replace hb := simB hb; try exact kill hb))
 clear n3
 refine HC_keeps (rw' := own idE 259 3 none 0 0 [] :: (rsP b b1 x3 bad3 wr l3 ++ [cel b3 92 [.int .i64 s, .int .i64 q, .slice none 0 0], cel b2 92 [.int .i64 0, .int .i64 0, .slice none 0 0]])) (Keeps.add (fun w => own_nil w) permA) ?_
 refine HC_keeps (rw' := rsP b b1 x3 bad3 wr l3 ++ [cel b3 92 [.int .i64 s, .int .i64 q, .slice none 0 0], own idE 259 3 none 0 0 [], cel b2 92 [.int .i64 0, .int .i64 0, .slice none 0 0]]) permA ?_
 refine HC_loop (α := Nat × Bool × Bool × List UInt8 × List CntQ × OA × OA) (fun y => y.2.2.2.2.1 ++ (rdK y.1 y.2.1 y.2.2.1 y.2.2.2.1).1 = (rdK m bad3 wr l3).1 ∧ (rdK y.1 y.2.1 y.2.2.1 y.2.2.2.1).2 = (rdK m bad3 wr l3).2 ∧ y.2.2.2.1.length ≤ 1000000000 ∧ y.2.2.2.1.length ≤ y.2.2.2.2.2.1.2 ∧ y.1 + y.2.2.2.2.1.length ≤ 255)
  (fun y => [(4, .int .i64 y.1), (3, pt b3), (2, pt b2), (0, pt b)])
  (fun y => rsP b b1 y.2.2.2.2.2.1 y.2.1 y.2.2.1 y.2.2.2.1 ++ [cel b3 92 [.int .i64 s, .int .i64 q, .slice y.2.2.2.2.2.2.1 y.2.2.2.2.1.length y.2.2.2.2.2.2.2], own idE 259 3 y.2.2.2.2.2.2.1 y.2.2.2.2.1.length y.2.2.2.2.2.2.2 (y.2.2.2.2.1.map CntQ.e), cel b2 92 [.int .i64 0, .int .i64 0, .slice none 0 0]])
  (fun y => y.1) rfl (m, bad3, wr, l3, [], x3, (none, 0)) ⟨rfl, rfl, by dsimp only; omega, hx3, by simp; omega⟩ ⟨rfl, rfl, rfl, rfl, trivial⟩ rfl ?_
 rintro ⟨n, bd, w, l', acc, xo, ao⟩ hinv
 obtain ⟨i1, i2, i3, i4, i5⟩ := hinv
 dsimp only [rsP, rdP, lca, lna] at i1 i2 i3 i4 i5 ⊢
 by_cases hx : n = 0 ∨ bd = true ∨ w = true
 ·have hexit : rdK n bd w l' = ([], bd, w, l') := by
   cases n with
   | zero => rfl
   | succ n =>
    refine rdK_stop ?_
    rcases hx with h | h | h
    ·omega
    ·simp [h]
    ·simp [h]
  rw [hexit, List.append_nil] at i1
  rw [hexit] at i2
  rw [← i1, ← i2]
  have hB := nbad_t b1 xo.1 l'.length xo.2 bd
  by_cases hn0 : n = 0
  ·subst hn0
   repeat' (first | refine SW ?_ | refine SD ?_ | exact HO_seg rfl rfl | refine S1 ?_ | (refine S2 ?_; intro _) | (refine S3 ?_; intro _ _) | (refine S4 ?_; intro _ _ _) | (refine HO_g 2 rfl ?_; first | apply HO_a1 rfl | apply HO_o1 rfl) | refine SYScR ?_ | refine S5 ?_ | (intro hb; try replace hb := simB hb; try exact kill hb))
   (refine SR ?_; unfold RetQ; refine ⟨(xo, ao), i4, rfl, permA⟩)
  ·have hn : (0 : Int) < n := by omega
   cases bd with
   | false =>
    obtain rfl : w = true := by simpa [hn0] using hx
    repeat' (first | refine SW ?_ | ((refine HO_g 2 rfl ?_); (refine HO_skip rfl rfl rfl rfl rdA ?_)) | refine SD ?_ | (refine HO_k 12 rfl ?_; refine HO_callq rfl rfl rfl rfl (hB) (fun _ _ => rfl) (srcsA) rfl rfl sqA ?_) | exact HO_seg rfl rfl | refine S1 ?_ | (refine S2 ?_; intro _) | (refine S3 ?_; intro _ _) | (refine S4 ?_; intro _ _ _) | (refine HO_g 2 rfl ?_; first | apply HO_a1 rfl | apply HO_o1 rfl) | refine SYScR ?_ | refine S5 ?_ | (intro hb; try replace hb := simB hb; try exact kill hb))
    (refine SR ?_; unfold RetQ; refine ⟨(xo, ao), i4, rfl, permA⟩)
   | true =>
    repeat' (first | refine SW ?_ | ((refine HO_g 2 rfl ?_); (refine HO_skip rfl rfl rfl rfl rdA ?_)) | refine SD ?_ | (refine HO_k 12 rfl ?_; refine HO_callq rfl rfl rfl rfl (hB) (fun _ _ => rfl) (srcsA) rfl rfl sqA ?_) | exact HO_seg rfl rfl | refine S1 ?_ | (refine S2 ?_; intro _) | (refine S3 ?_; intro _ _) | (refine S4 ?_; intro _ _ _) | (refine HO_g 2 rfl ?_; first | apply HO_a1 rfl | apply HO_o1 rfl) | refine SYScR ?_ | refine S5 ?_ | (intro hb; try replace hb := simB hb; try exact kill hb))
    (refine SR ?_; unfold RetQ; refine ⟨(xo, ao), i4, rfl, permA⟩)
 ·obtain ⟨hn0, hbd, hw⟩ : n ≠ 0 ∧ bd = false ∧ w = false := by
   simp only [not_or, Bool.not_eq_true] at hx
   exact hx
  subst hbd hw
  obtain ⟨n, rfl⟩ : ∃ k, n = k + 1 := ⟨n - 1, by omega⟩
  have hB := nbad_t b1 xo.1 l'.length xo.2 false
  have hn : (0 : Int) < ((n + 1 : Nat) : Int) := by omega
  have hn1 : ((n + 1 : Nat) : Int) - 1 = (n : Int) := by omega
  have hun : rdK (n + 1) false false l' = (⟨(pfxF false false l').1.1, (pfxF false false l').1.2, (rdN (pfxF false false l').2.1 (pfxF false false l').2.2.2 4).1⟩ ::
    (rdK n (rdN (pfxF false false l').2.1 (pfxF false false l').2.2.2 4).2.1 (pfxF false false l').2.2.1 (rdN (pfxF false false l').2.1 (pfxF false false l').2.2.2 4).2.2).1,
    (rdK n (rdN (pfxF false false l').2.1 (pfxF false false l').2.2.2 4).2.1 (pfxF false false l').2.2.1 (rdN (pfxF false false l').2.1 (pfxF false false l').2.2.2 4).2.2).2) := by
   conv => lhs; unfold rdK
   rw [if_neg (by decide)]
  rw [hun] at i1 i2
  clear hun
  have n1 := rpfx_t b b1 xo false false l' i3 i4
  have k1 := pfx_len false false l'
  obtain ⟨⟨⟨pa, pq⟩, bad4, w4, l4⟩, hr1⟩ : ∃ r, pfxF false false l' = r := ⟨_, rfl⟩
  rw [hr1] at n1 k1 i1 i2
  dsimp only at n1 k1 i1 i2
  have n2 := fun x hx => rnumN_t b1 x bad4 l4 4 (by decide) (by omega) hx
  have k2 := rdN_lt bad4 l4 4 (by decide)
  obtain ⟨⟨v, bad5, l5⟩, hr2⟩ : ∃ r, rdN bad4 l4 4 = r := ⟨_, rfl⟩
  rw [hr2] at n2 k2 i1 i2
  dsimp only at n2 k2 i1 i2
  clear hr1 hr2
  dsimp only [rsP, rdP, pfV] at n1 n2
  have haL : acc.length ≤ 255 := by omega
  repeat' (first | refine SW ?_ | ((refine HO_g 2 rfl ?_); (refine HO_skip rfl rfl rfl rfl rdA ?_)) | refine SD ?_ | (refine HO_k 12 rfl ?_; refine HO_callq rfl rfl rfl rfl (hB) (fun _ _ => rfl) (srcsA) rfl rfl sqA ?_) | (refine HO_k 12 rfl ?_; refine HO_call rfl rfl rfl rfl (n1) rfl (trivial) rfl rfl soA ?_; intro x1 hx1; dsimp only [lca, lna]) | (refine HO_k 12 rfl ?_; refine HO_call rfl rfl rfl rfl (n2 _ hx1) rfl (trivial) rfl rfl soA ?_; intro x2 hx2; dsimp only [lca, lna]) | (refine HO_k 12 rfl ?_; refine HO_mv 2 rfl rfl ?_; refine HO_mv 2 rfl rfl ?_; refine HO_call rfl rfl rfl rfl (n2 _ hx1) rfl (trivial) rfl rfl soA ?_; intro x2 hx2; dsimp only [lca, lna]) | (refine HO_k 12 rfl ?_; refine HO_mv 3 rfl rfl ?_; refine HO_mv 3 rfl rfl ?_; refine HO_call rfl rfl rfl rfl (n2 _ hx1) rfl (trivial) rfl rfl soA ?_; intro x2 hx2; dsimp only [lca, lna]) | (refine HO_k 11 rfl ?_; refine HO_appw rfl rfl rfl rfl rfl rfl rfl rfl ?h1 ?h2 rfl rfl ?h3 ?h4 rfl rfl rfl ?h5 ?_; (case h1 => simp only [List.length_append, List.length_map, List.length_cons, List.length_nil, be_length]); (case h2 => repeat (first | exact WfL.nil | exact WfL.map | apply WfL.append | refine WfL.cons rfl rfl ?_ | assumption)); (case h3 => (try simp only [List.length_append, List.length_map, List.length_cons, List.length_nil, be_length]); (try omega)); (case h4 => (try simp only [List.length_append, List.length_map, List.length_cons, List.length_nil, be_length]); (try omega)); (case h5 => exact soA); intro _ _) | exact HO_seg rfl rfl | refine S1 ?_ | (refine S2 ?_; intro _) | (refine S3 ?_; intro _ _) | (refine S4 ?_; intro _ _ _) | (refine HO_g 2 rfl ?_; first | apply HO_a1 rfl | apply HO_o1 rfl) | refine SYScR ?_ | refine S5 ?_ | (intro hb; try replace hb := simB hb; try exact kill hb))
  rename_i b5 b6 A4 c4
  rw [hn1]
  have eL : acc.length + 1 = (acc ++ [(⟨pa, pq, v⟩ : CntQ)]).length := by simp
  refine HX_keeps (rw' := rsP b b1 x2 bad5 w4 l5 ++ [cel b3 92 [.int .i64 s, .int .i64 q, .slice A4 (acc ++ [(⟨pa, pq, v⟩ : CntQ)]).length c4], own idE 259 3 A4 (acc ++ [(⟨pa, pq, v⟩ : CntQ)]).length c4 ((acc ++ [(⟨pa, pq, v⟩ : CntQ)]).map CntQ.e), cel b2 92 [.int .i64 0, .int .i64 0, .slice none 0 0]]) ?_ ?_
  ·rw [← eL, List.map_append]
   exact permA
  ·exact HX_at (n, bad5, w4, l5, acc ++ [(⟨pa, pq, v⟩ : CntQ)], x2, (A4, c4)) ⟨⟨by simpa [List.append_assoc] using i1, i2, by dsimp only; omega, hx2, by simp; omega⟩, Nat.lt_succ_self n⟩ ⟨rfl, rfl, rfl, rfl, trivial⟩ rfl
end Go.Proofs.YtbhiojedmkcfoaaGreatDoor
