/- Part of a proof of many texts: what the theorem at its end leans on. -/
import Derived.Test.YtbhiojedmkcfoaaGreatDoorZCgP
import Derived.Test.YtbhiojedmkcfoaaGreatDoorZCgA
namespace Go.Proofs.YtbhiojedmkcfoaaGreatDoor
set_option linter.unusedVariables false
set_option linter.unusedSimpArgs false
open Go.RowKit
attribute [local irreducible] HC HX HO Tri eP adr
set_option maxHeartbeats 8000000 in
theorem rwords_t : Tri Tryz.prog 74 [] [] [] (fun _ : Nat => True) (fun b => .slice (some ⟨b, 0, none⟩) 18 18) (fun b => [own idE 9 1 (some ⟨b, 0, none⟩) 18 18 (wordsL.map strE)]) := by
 refine Tri_of (N := Tryz.f74.ntmps) (c := bodyOf Tryz.f74) Tryz.func74 rfl rfl rfl rfl (fun w0 S0 => ?_)
 repeat' (first | refine SW ?_ | refine SD ?_ | exact HO_seg rfl rfl | refine S1 ?_ | (refine S2 ?_; intro _) | (refine S3 ?_; intro _ _) | (refine S4 ?_; intro _ _ _) | (refine HO_g 2 rfl ?_; first | apply HO_a1 rfl | apply HO_o1 rfl) | refine S5 ?_ | (intro hb; try replace hb := simB hb; try exact kill hb))
 rename_i b
 (refine SR ?_; unfold RetQ; apply Exists.intro (b); refine ⟨trivial, ?_, ?_⟩; rotate_left 1; (repeat (first | exact Keeps.nil | refine Keeps.own_cons ?_ ?_ ?_ | refine Keeps.arr_cons ?_ ?_ | refine Keeps.cons Ent.rfl_ ?_ | refine Keeps.skip ?_ | refine Keeps.own_none ?_ ?_ ?_ | refine Keeps.arr_none ?_ ?_)))
 all_goals rfl
end Go.Proofs.YtbhiojedmkcfoaaGreatDoor
