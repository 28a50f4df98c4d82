/- Part of a proof of many texts: what the theorem at its end leans on. -/
import Derived.Test.YtbhiojedmkcfoaaGreatDoorZScN
import Derived.Test.YtbhiojedmkcfoaaGreatDoorZScR
import Derived.Test.YtbhiojedmkcfoaaGreatDoorZScU
import Derived.Test.YtbhiojedmkcfoaaGreatDoorZSdK
namespace Go.Proofs.YtbhiojedmkcfoaaGreatDoor
set_option linter.unusedVariables false
set_option linter.unusedSimpArgs false
open Go.RowKit
attribute [local irreducible] HC HX HO Tri eP adr
theorem SYScW {p q : Prop} (hq : q) (h : q → p := by intro hq; refine HO_k 3 rfl ?_; exact HO_lastG (by decide +kernel) rfl rfl (by decide +kernel) (by decide +kernel) rfl hq) : p := h hq
theorem pfx_a (bad wr : Bool) (l : List UInt8) : (pfxF bad wr l).1.1 < 4294967296 := by
 unfold pfxF
 dsimp only
 generalize UInt8.ofNat (ngetR (rdB bad l 1).1).1.toNat :: (rdB (rdB bad l 1).2.1 (rdB bad l 1).2.2 ((((ngetR (rdB bad l 1).1).1.toNat + 7) / 8 : Nat) : Int)).1 = bits
 cases h : pfG bits with
 | none => decide
 | some y => exact (pfG_ok (a := y.1) (q := y.2) h).1
theorem rdK_W : ∀ (n : Nat) (bad wr : Bool) (l : List UInt8), (rdK n bad wr l).1.length ≤ n ∧ (∀ c ∈ (rdK n bad wr l).1, c.a < 4294967296) ∧ (rdK n bad wr l).2.2.2.length ≤ l.length
 | 0, bad, wr, l => ⟨Nat.le_refl _, fun c hc => (by cases hc), Nat.le_refl _⟩
 | n + 1, bad, wr, l => by
  unfold rdK
  split
  ·exact ⟨Nat.zero_le _, fun c hc => (by cases hc), Nat.le_refl _⟩
  ·dsimp only
   have ih := rdK_W n (rdN (pfxF bad wr l).2.1 (pfxF bad wr l).2.2.2 4).2.1 (pfxF bad wr l).2.2.1 (rdN (pfxF bad wr l).2.1 (pfxF bad wr l).2.2.2 4).2.2
   have h1 := pfx_len bad wr l
   have h2 := (rdN_lt (pfxF bad wr l).2.1 (pfxF bad wr l).2.2.2 4 (by decide)).2
   refine ⟨by simpa using ih.1, fun c hc => ?_, by omega⟩
   rcases List.mem_cons.1 hc with rfl | hc
   ·exact pfx_a bad wr l
   ·exact ih.2.1 c hc
theorem rdC_W : ∀ (n : Nat) (bad wr : Bool) (l : List UInt8), (rdC n bad wr l).1.length ≤ n ∧ (rdC n bad wr l).2.2.2.length ≤ l.length
 | 0, bad, wr, l => ⟨Nat.le_refl _, Nat.le_refl _⟩
 | n + 1, bad, wr, l => by
  unfold rdC
  split
  ·exact ⟨Nat.zero_le _, Nat.le_refl _⟩
  ·dsimp only
   have ih := rdC_W n (rdN (rdN (rdN bad l 4).2.1 (rdN bad l 4).2.2 4).2.1 (rdN (rdN bad l 4).2.1 (rdN bad l 4).2.2 4).2.2 1).2.1 (wr || decide ((rdN (rdN (rdN bad l 4).2.1 (rdN bad l 4).2.2 4).2.1 (rdN (rdN bad l 4).2.1 (rdN bad l 4).2.2 4).2.2 1).1 > 1)) (rdN (rdN (rdN bad l 4).2.1 (rdN bad l 4).2.2 4).2.1 (rdN (rdN bad l 4).2.1 (rdN bad l 4).2.2 4).2.2 1).2.2
   have h1 := (rdN_lt bad l 4 (by decide)).2
   have h2 := (rdN_lt (rdN bad l 4).2.1 (rdN bad l 4).2.2 4 (by decide)).2
   have h3 := (rdN_lt (rdN (rdN bad l 4).2.1 (rdN bad l 4).2.2 4).2.1 (rdN (rdN bad l 4).2.1 (rdN bad l 4).2.2 4).2.2 1 (by decide)).2
   exact ⟨by simpa using ih.1, by omega⟩
theorem rdH_W (bad : Bool) (l : List UInt8) : (rdH bad l).1 < 256 ∧ (rdH bad l).2.1 < 4294967296 ∧ (rdH bad l).2.2.1 < 256 ∧ (rdH bad l).2.2.2.2.length ≤ l.length := by
 unfold rdH
 dsimp only
 have h1 := rdN_lt bad l 1 (by decide)
 have h2 := rdN_lt (rdN bad l 1).2.1 (rdN bad l 1).2.2 4 (by decide)
 have h3 := rdN_lt (rdN (rdN bad l 1).2.1 (rdN bad l 1).2.2 4).2.1 (rdN (rdN bad l 1).2.1 (rdN bad l 1).2.2 4).2.2 1 (by decide)
 omega
theorem rdD_W (bad wr : Bool) (l : List UInt8) : DoW (rdD bad wr l).1 ∧ (rdD bad wr l).2.2.2.length ≤ l.length := by
 have k1 := rdN_lt bad l 1 (by decide)
 have z0 : i64R (0 : Int) := by unfold i64R; omega
 have hcl : ∀ c ∈ ([] : List CntQ), c.a < 4294967296 := fun c hc => by cases hc
 unfold rdD
 dsimp only
 split
 ·have h := rdH_W (rdN bad l 1).2.1 (rdN bad l 1).2.2
  have t := rdK_W (rdH (rdN bad l 1).2.1 (rdN bad l 1).2.2).2.2.1 (rdH (rdN bad l 1).2.1 (rdN bad l 1).2.2).2.2.2.1 wr (rdH (rdN bad l 1).2.1 (rdN bad l 1).2.2).2.2.2.2
  refine ⟨⟨⟨by simp [do0], by simp only; omega, by simp [do0]⟩, ⟨?_, ?_, z0, z0⟩, t.2.1⟩, by simp only; omega⟩
  ·unfold i64R; simp only; omega
  ·unfold i64R; simp only; omega
 split
 ·have h := rdH_W (rdN bad l 1).2.1 (rdN bad l 1).2.2
  have t := rdC_W (rdH (rdN bad l 1).2.1 (rdN bad l 1).2.2).2.2.1 (rdH (rdN bad l 1).2.1 (rdN bad l 1).2.2).2.2.2.1 wr (rdH (rdN bad l 1).2.1 (rdN bad l 1).2.2).2.2.2.2
  refine ⟨⟨⟨by simp [do0], by simp [do0], by simp only; omega⟩, ⟨z0, z0, ?_, ?_⟩, hcl⟩, by simp only; omega⟩
  ·unfold i64R; simp only; omega
  ·unfold i64R; simp only; omega
 split
 ·have k2 := rdN_lt (rdN bad l 1).2.1 (rdN bad l 1).2.2 1 (by decide)
  split
  ·have k3 := rdN_lt (rdN (rdN bad l 1).2.1 (rdN bad l 1).2.2 1).2.1 (rdN (rdN bad l 1).2.1 (rdN bad l 1).2.2 1).2.2 2 (by decide)
   have k4 := rdB_len (rdN (rdN (rdN bad l 1).2.1 (rdN bad l 1).2.2 1).2.1 (rdN (rdN bad l 1).2.1 (rdN bad l 1).2.2 1).2.2 2).2.1 (rdN (rdN (rdN bad l 1).2.1 (rdN bad l 1).2.2 1).2.1 (rdN (rdN bad l 1).2.1 (rdN bad l 1).2.2 1).2.2 2).2.2 ((rdN (rdN (rdN bad l 1).2.1 (rdN bad l 1).2.2 1).2.1 (rdN (rdN bad l 1).2.1 (rdN bad l 1).2.2 1).2.2 2).1 : Int)
   refine ⟨⟨⟨?_, by simp [do0], by simp [do0]⟩, ⟨z0, z0, z0, z0⟩, hcl⟩, by simp only; omega⟩
   have := k3.1
   simp only
   omega
  split
  ·have k3 := rdN_lt (rdN (rdN bad l 1).2.1 (rdN bad l 1).2.2 1).2.1 (rdN (rdN bad l 1).2.1 (rdN bad l 1).2.2 1).2.2 4 (by decide)
   exact ⟨⟨⟨by simp [do0], by simp [do0], by simp [do0]⟩, ⟨z0, z0, z0, z0⟩, hcl⟩, by simp only; omega⟩
  ·exact ⟨⟨⟨by simp [do0], by simp [do0], by simp [do0]⟩, ⟨z0, z0, z0, z0⟩, hcl⟩, by simp only; omega⟩
 ·exact ⟨⟨⟨by simp [do0], by simp [do0], by simp [do0]⟩, ⟨z0, z0, z0, z0⟩, hcl⟩, by simp only; omega⟩
set_option maxHeartbeats 1000000000 in
theorem rsdo_t (b b1 : Nat) (x : OA) (bad wr : Bool) (l : List UInt8) (hb : l.length ≤ 1000000000) (hc : l.length ≤ x.2) :
  Tri Tryz.prog 121 [pt b] [] (rsP b b1 x bad wr l) (fun y : OA × (OA × OA × OA) => (rdD bad wr l).2.2.2.length ≤ y.1.2)
   (fun y => .agg (mkDo (rdD bad wr l).1 y.2).e.toArray) (fun y => rsP b b1 y.1 (rdD bad wr l).2.1 (rdD bad wr l).2.2.1 (rdD bad wr l).2.2.2 ++ (mkDo (rdD bad wr l).1 y.2).ro) := by
 unfold rdD
 dsimp only
 have n1 := rnumN_t b1 x bad l 1 (by decide) hb hc
 have k1 := rdN_lt bad l 1 (by decide)
 obtain ⟨⟨k, bad1, l1⟩, hr1⟩ : ∃ r, rdN bad l 1 = r := ⟨_, rfl⟩
 rw [hr1] at n1 k1 ⊢
 dsimp only at n1 k1 ⊢
 clear hr1
 by_cases h8 : k = 8
 ·subst h8
  rw [if_pos rfl]
  have n2 := fun x hx => rcounts_t b b1 x bad1 wr l1 (by omega) hx
  obtain ⟨⟨s, q, m, bad2, l2⟩, hr2⟩ : ∃ r, rdH bad1 l1 = r := ⟨_, rfl⟩
  rw [hr2] at n2 ⊢
  dsimp only at n2 ⊢
  obtain ⟨⟨cl, bad3, wr3, l3⟩, hr3⟩ : ∃ r, rdK m bad2 wr l2 = r := ⟨_, rfl⟩
  rw [hr3] at n2 ⊢
  dsimp only [rsP, rdP] at n1 n2 ⊢
  refine Tri_of (N := Tryz.f121.ntmps) (c := bodyOf Tryz.f121) Tryz.func121 rfl rfl rfl rfl (fun w0 S0 => ?_)
  repeat' (first | refine SW ?_ | refine SD ?_ | (refine HO_k 12 rfl ?_; refine HO_mv 3 rfl rfl ?_; refine HO_mv 3 rfl rfl ?_; refine HO_call rfl rfl rfl rfl (n1) rfl (trivial) rfl rfl soA ?_; intro x1 hx1; dsimp only [lca, lna]) | (refine HO_k 12 rfl ?_; refine HO_mv 2 rfl rfl ?_; refine HO_mv 2 rfl rfl ?_; refine HO_mv 4 rfl rfl ?_; refine HO_call rfl rfl rfl rfl (n2 _ hx1) rfl (trivial) rfl rfl soA ?_; intro x2 hx2; dsimp only [lca, lna]) | exact HO_seg rfl rfl | refine S1 ?_ | (refine S2 ?_; intro _) | (refine S3 ?_; intro _ _) | (refine S4 ?_; intro _ _ _) | (refine HO_g 2 rfl ?_; first | apply HO_a1 rfl | apply HO_o1 rfl) | refine SYScW ?_ | refine S5 ?_ | (intro hb; try replace hb := simB hb; try exact kill hb))
  (refine SR ?_; unfold RetQ; refine ⟨(x2.1, ((none, 0), x2.2, (none, 0))), hx2, rfl, Keeps.cmp (show Keeps _ (rsP b b1 x2.1 bad3 wr3 l3 ++ [own idE 259 3 x2.2.1 cl.length x2.2.2 (cl.map CntQ.e)]) from permA) (Keeps.pick 0 rfl rfl (Keeps.pick 0 rfl rfl (Keeps.pick 0 rfl rfl (Keeps.add (fun w => arr_nil _ w) (Keeps.pickE 0 rfl rfl own_e (Keeps.add (fun w => arr_nil _ w) (Keeps.nil)))))))⟩)
 rw [if_neg h8]
 by_cases h9 : k = 9
 ·subst h9
  rw [if_pos rfl]
  have n2 := fun x hx => rcarries_t b b1 x bad1 wr l1 (by omega) hx
  obtain ⟨⟨s, q, m, bad2, l2⟩, hr2⟩ : ∃ r, rdH bad1 l1 = r := ⟨_, rfl⟩
  rw [hr2] at n2 ⊢
  dsimp only at n2 ⊢
  obtain ⟨⟨cl, bad3, wr3, l3⟩, hr3⟩ : ∃ r, rdC m bad2 wr l2 = r := ⟨_, rfl⟩
  rw [hr3] at n2 ⊢
  dsimp only [rsP, rdP] at n1 n2 ⊢
  refine Tri_of (N := Tryz.f121.ntmps) (c := bodyOf Tryz.f121) Tryz.func121 rfl rfl rfl rfl (fun w0 S0 => ?_)
  repeat' (first | refine SW ?_ | refine SD ?_ | (refine HO_k 12 rfl ?_; refine HO_mv 3 rfl rfl ?_; refine HO_mv 3 rfl rfl ?_; refine HO_call rfl rfl rfl rfl (n1) rfl (trivial) rfl rfl soA ?_; intro x1 hx1; dsimp only [lca, lna]) | (refine HO_k 12 rfl ?_; refine HO_mv 2 rfl rfl ?_; refine HO_mv 2 rfl rfl ?_; refine HO_mv 4 rfl rfl ?_; refine HO_call rfl rfl rfl rfl (n2 _ hx1) rfl (trivial) rfl rfl soA ?_; intro x2 hx2; dsimp only [lca, lna]) | exact HO_seg rfl rfl | refine S1 ?_ | (refine S2 ?_; intro _) | (refine S3 ?_; intro _ _) | (refine S4 ?_; intro _ _ _) | (refine HO_g 2 rfl ?_; first | apply HO_a1 rfl | apply HO_o1 rfl) | refine SYScW ?_ | refine S5 ?_ | (intro hb; try replace hb := simB hb; try exact kill hb))
  (refine SR ?_; unfold RetQ; refine ⟨(x2.1, ((none, 0), (none, 0), x2.2)), hx2, rfl, Keeps.cmp (show Keeps _ (rsP b b1 x2.1 bad3 wr3 l3 ++ [own idE 174 3 x2.2.1 cl.length x2.2.2 (cl.map CarQ.e)]) from permA) (Keeps.pick 0 rfl rfl (Keeps.pick 0 rfl rfl (Keeps.pick 0 rfl rfl (Keeps.add (fun w => arr_nil _ w) (Keeps.add (fun w => arr_nil _ w) (Keeps.pickE 0 rfl rfl own_e (Keeps.nil)))))))⟩)
 rw [if_neg h9]
 by_cases h6 : k ≤ 6
 ·rw [if_pos h6]
  have n2 := fun x hx => rnumN_t b1 x bad1 l1 1 (by decide) (by omega) hx
  have k2 := rdN_lt bad1 l1 1 (by decide)
  obtain ⟨⟨ro, bad2, l2⟩, hr2⟩ : ∃ r, rdN bad1 l1 1 = r := ⟨_, rfl⟩
  rw [hr2] at n2 k2 ⊢
  dsimp only at n2 k2 ⊢
  clear hr2
  by_cases h5 : k = 5
  ·subst h5
   rw [if_pos rfl]
   have n3 := fun x hx => rnumN_t b1 x bad2 l2 2 (by decide) (by omega) hx
   have k3 := rdN_lt bad2 l2 2 (by decide)
   obtain ⟨⟨n, bad3, l3⟩, hr3⟩ : ∃ r, rdN bad2 l2 2 = r := ⟨_, rfl⟩
   rw [hr3] at n3 k3 ⊢
   dsimp only at n3 k3 ⊢
   clear hr3
   have n4 := fun (x : OA) hx => nbytes_t b1 x.1 x.2 bad3 l3 (n : Int) (by omega) hx
   obtain ⟨⟨dt, bad4, l4⟩, hr4⟩ : ∃ r, rdB bad3 l3 (n : Int) = r := ⟨_, rfl⟩
   rw [hr4] at n4 ⊢
   dsimp only [rsP, rdP] at n1 n2 n3 n4 ⊢
   refine Tri_of (N := Tryz.f121.ntmps) (c := bodyOf Tryz.f121) Tryz.func121 rfl rfl rfl rfl (fun w0 S0 => ?_)
   repeat' (first | refine SW ?_ | refine SD ?_ | (refine HO_k 12 rfl ?_; refine HO_mv 3 rfl rfl ?_; refine HO_mv 3 rfl rfl ?_; refine HO_call rfl rfl rfl rfl (n1) rfl (trivial) rfl rfl soA ?_; intro x1 hx1; dsimp only [lca, lna]) | (refine HO_k 12 rfl ?_; refine HO_mv 2 rfl rfl ?_; refine HO_mv 2 rfl rfl ?_; refine HO_call rfl rfl rfl rfl (n2 _ hx1) rfl (trivial) rfl rfl soA ?_; intro x2 hx2; dsimp only [lca, lna]) | (refine HO_k 12 rfl ?_; refine HO_call rfl rfl rfl rfl (n3 _ hx2) rfl (trivial) rfl rfl soA ?_; intro x3 hx3; dsimp only [lca, lna]) | (refine HO_k 12 rfl ?_; refine HO_call rfl rfl rfl rfl (n4 _ hx3) rfl (trivial) rfl rfl soA ?_; intro x4 hx4; dsimp only [lca, lna]) | exact HO_seg rfl rfl | refine S1 ?_ | (refine S2 ?_; intro _) | (refine S3 ?_; intro _ _) | (refine S4 ?_; intro _ _ _) | (refine HO_g 2 rfl ?_; first | apply HO_a1 rfl | apply HO_o1 rfl) | refine SYScW ?_ | refine S5 ?_ | (intro hb; try replace hb := simB hb; try exact kill hb))
   (refine SR ?_; unfold RetQ; refine ⟨(x4.2, (x4.1, (none, 0), (none, 0))), hx4.2, rfl, Keeps.cmp (show Keeps _ (rsP b b1 x4.2 bad4 wr l4 ++ [ownB x4.1 dt]) from permA) (Keeps.pick 0 rfl rfl (Keeps.pick 0 rfl rfl (Keeps.pick 0 rfl rfl (Keeps.pickE 0 rfl rfl own_byte (Keeps.add (fun w => arr_nil _ w) (Keeps.add (fun w => arr_nil _ w) (Keeps.nil)))))))⟩)
  rw [if_neg h5]
  by_cases h66 : k = 6
  ·subst h66
   rw [if_pos rfl]
   have n3 := fun x hx => rnumN_t b1 x bad2 l2 4 (by decide) (by omega) hx
   obtain ⟨⟨n, bad3, l3⟩, hr3⟩ : ∃ r, rdN bad2 l2 4 = r := ⟨_, rfl⟩
   rw [hr3] at n3 ⊢
   dsimp only [rsP, rdP] at n1 n2 n3 ⊢
   refine Tri_of (N := Tryz.f121.ntmps) (c := bodyOf Tryz.f121) Tryz.func121 rfl rfl rfl rfl (fun w0 S0 => ?_)
   repeat' (first | refine SW ?_ | refine SD ?_ | (refine HO_k 12 rfl ?_; refine HO_mv 3 rfl rfl ?_; refine HO_mv 3 rfl rfl ?_; refine HO_call rfl rfl rfl rfl (n1) rfl (trivial) rfl rfl soA ?_; intro x1 hx1; dsimp only [lca, lna]) | (refine HO_k 12 rfl ?_; refine HO_mv 2 rfl rfl ?_; refine HO_mv 2 rfl rfl ?_; refine HO_call rfl rfl rfl rfl (n2 _ hx1) rfl (trivial) rfl rfl soA ?_; intro x2 hx2; dsimp only [lca, lna]) | (refine HO_k 12 rfl ?_; refine HO_call rfl rfl rfl rfl (n3 _ hx2) rfl (trivial) rfl rfl soA ?_; intro x3 hx3; dsimp only [lca, lna]) | exact HO_seg rfl rfl | refine S1 ?_ | (refine S2 ?_; intro _) | (refine S3 ?_; intro _ _) | (refine S4 ?_; intro _ _ _) | (refine HO_g 2 rfl ?_; first | apply HO_a1 rfl | apply HO_o1 rfl) | refine SYScW ?_ | refine S5 ?_ | (intro hb; try replace hb := simB hb; try exact kill hb))
   (refine SR ?_; unfold RetQ; refine ⟨(x3, ((none, 0), (none, 0), (none, 0))), hx3, rfl, Keeps.cmp (show Keeps _ (rsP b b1 x3 bad3 wr l3) from permA) (Keeps.pick 0 rfl rfl (Keeps.pick 0 rfl rfl (Keeps.pick 0 rfl rfl (Keeps.add (fun w => arr_nil _ w) (Keeps.add (fun w => arr_nil _ w) (Keeps.add (fun w => arr_nil _ w) (Keeps.nil)))))))⟩)
  rw [if_neg h66]
  dsimp only [rsP, rdP] at n1 n2 ⊢
  refine Tri_of (N := Tryz.f121.ntmps) (c := bodyOf Tryz.f121) Tryz.func121 rfl rfl rfl rfl (fun w0 S0 => ?_)
  repeat' (first | refine SW ?_ | refine SD ?_ | (refine HO_k 12 rfl ?_; refine HO_mv 3 rfl rfl ?_; refine HO_mv 3 rfl rfl ?_; refine HO_call rfl rfl rfl rfl (n1) rfl (trivial) rfl rfl soA ?_; intro x1 hx1; dsimp only [lca, lna]) | (refine HO_k 12 rfl ?_; refine HO_mv 2 rfl rfl ?_; refine HO_mv 2 rfl rfl ?_; refine HO_call rfl rfl rfl rfl (n2 _ hx1) rfl (trivial) rfl rfl soA ?_; intro x2 hx2; dsimp only [lca, lna]) | exact HO_seg rfl rfl | refine S1 ?_ | (refine S2 ?_; intro _) | (refine S3 ?_; intro _ _) | (refine S4 ?_; intro _ _ _) | (refine HO_g 2 rfl ?_; first | apply HO_a1 rfl | apply HO_o1 rfl) | refine SYScW ?_ | refine S5 ?_ | (intro hb; try replace hb := simB hb; try exact kill hb))
  (refine SR ?_; unfold RetQ; refine ⟨(x2, ((none, 0), (none, 0), (none, 0))), hx2, rfl, Keeps.cmp (show Keeps _ (rsP b b1 x2 bad2 wr l2) from permA) (Keeps.pick 0 rfl rfl (Keeps.pick 0 rfl rfl (Keeps.pick 0 rfl rfl (Keeps.add (fun w => arr_nil _ w) (Keeps.add (fun w => arr_nil _ w) (Keeps.add (fun w => arr_nil _ w) (Keeps.nil)))))))⟩)
 rw [if_neg h6]
 dsimp only [rsP, rdP] at n1 ⊢
 refine Tri_of (N := Tryz.f121.ntmps) (c := bodyOf Tryz.f121) Tryz.func121 rfl rfl rfl rfl (fun w0 S0 => ?_)
 repeat' (first | refine SW ?_ | refine SD ?_ | (refine HO_k 12 rfl ?_; refine HO_mv 3 rfl rfl ?_; refine HO_mv 3 rfl rfl ?_; refine HO_call rfl rfl rfl rfl (n1) rfl (trivial) rfl rfl soA ?_; intro x1 hx1; dsimp only [lca, lna]) | exact HO_seg rfl rfl | refine S1 ?_ | (refine S2 ?_; intro _) | (refine S3 ?_; intro _ _) | (refine S4 ?_; intro _ _ _) | (refine HO_g 2 rfl ?_; first | apply HO_a1 rfl | apply HO_o1 rfl) | refine SYScW ?_ | refine S5 ?_ | (intro hb; try replace hb := simB hb; try exact kill hb))
 (refine SR ?_; unfold RetQ; refine ⟨(x1, ((none, 0), (none, 0), (none, 0))), hx1, rfl, Keeps.cmp (show Keeps _ (rsP b b1 x1 bad1 wr l1) from permA) (Keeps.pick 0 rfl rfl (Keeps.pick 0 rfl rfl (Keeps.pick 0 rfl rfl (Keeps.add (fun w => arr_nil _ w) (Keeps.add (fun w => arr_nil _ w) (Keeps.add (fun w => arr_nil _ w) (Keeps.nil)))))))⟩)
end Go.Proofs.YtbhiojedmkcfoaaGreatDoor
