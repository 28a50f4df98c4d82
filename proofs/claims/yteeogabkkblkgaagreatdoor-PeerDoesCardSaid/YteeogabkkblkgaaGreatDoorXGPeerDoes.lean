/- The law PeerDoes holds of every input, at the listed variables as the program's text lays them. No condition. -/
import Derived.Test.YteeogabkkblkgaaGreatDoorRows
import Derived.Test.YteeogabkkblkgaaGreatDoorCards
import Derived.Test.YteeogabkkblkgaaGreatDoorTie
import Derived.Test.YteeogabkkblkgaaGreatDoorXGLpZ
import Derived.Test.YteeogabkkblkgaaGreatDoorXGLpL
import Derived.ProofKit
import Derived.SevenTiedAt
import Derived.Stop.Joined
namespace Go.Proofs.YteeogabkkblkgaaGreatDoor
set_option linter.unusedVariables false
set_option linter.unusedSimpArgs false
open Go.RowKit Go.ChangeShapes
attribute [local irreducible] HC HX HO Tri eP adr

set_option maxRecDepth 100000 in
theorem peerDoes_lifted (os : Os) (started : os.Started) (H : Type) (enc : TypeId × Value → H) :
    ReturnsInHanded {} Tryz.checked os 7 .any (fun w args => (Rows.peerDoesSpec.pre enc Tryz.prog Tryz.f7 [] false w args ∧ laidMetH Tryz.prog peLaid w) ∧ sizedMet enc Tryz.prog Tryz.f7 (OpenSpec.ofChange Rows.peerDoesSpec) false w args)
      (Rows.peerDoesSpec.post enc Tryz.prog Tryz.f7 false true false false) := by
  refine law_laid (C := Tryz.checked) [.int .i64, .agg [.agg [.int .i64, .int .i64, .int .u32, .bool, .int .i64], .int .i64], .int .i64, .sl (.agg [.int .i64, .int .i64, .int .i64, .sl (.int .u8), .agg [.sl (.agg [.int .i64, .agg [.int .u32, .int .i64]]), .sl (.agg [.int .i64, .agg [.int .u32, .int .i64]]), .agg [.int .i64, .sl (.agg [.bool, .sl (.int .i64)]), .int .u32, .int .i64, .int .i64, .sl (.int .i64)], .bool], .agg [.int .i64, .int .i64, .sl (.int .u8)]])] 4 (fun w => laidMetH Tryz.prog peLaid w) pe_of_heap (by kernel_rfl) started (by kernel_rfl) Tryz.func7
    (ChangeSpec.witness_shaped (enc := enc) (C := Tryz.checked) (os := os) (X := fun w _ => laidMetH Tryz.prog peLaid w) false (World.laidAll Tryz.prog os peLaid) #[.int .i64 0, .agg #[.int .i64 0, .int .i64 0, .int .u32 0, .bool false, .int .i64 0, .int .i64 0], .int .i64 0, .slice none 0 0] 8 (World.laidAll_os _ _ _)
      (World.shaped_of_ZipB (by kernel_rfl) (by kernel_rfl)) (by kernel_rfl) (by kernel_rfl) (by kernel_rfl) (pe_world os _)) rfl
    (fun ds hds => match ds, hds with | [d0, d1, d2, d3], _ => rfl) (by kernel_rfl) (by kernel_rfl) (by kernel_rfl) (by kernel_rfl) (by kernel_rfl) (fun m => [leW]) pe_laid (fun m l hl => ?_)
  exact rowDoes hl (fun n l room A c os hid h => does_t n l room A c os hid h)
theorem peerDoes_f0 : laidOutB Tryz.pinned.checked.prog = true := by kernel_rfl
theorem peerDoes_f1 : mapsRowed Tryz.pinned.checked.prog = true := by kernel_rfl
theorem peerDoes_f2 : (Rows.peerDoesRow.inPlace == Tryz.pinned.checked.prog.inPlace 7) = true := by kernel_rfl
theorem peerDoes_f3 : (Rows.peerDoesRow.unfollowed == Tryz.pinned.checked.prog.unfollowed 7) = true := by kernel_rfl
theorem peerDoes_f4 : (Rows.peerDoesRow.recurses == Tryz.pinned.checked.prog.recurses 7) = true := by kernel_rfl
theorem peerDoes_f5 : (Rows.peerDoesRow.named == Tryz.pinned.checked.prog.varsNamed 7) = true := by kernel_rfl
set_option maxRecDepth 100000 in
theorem peerDoes_closed : joinedFacts Tryz.pinned.checked.prog 7 Tryz.f7 Rows.peerDoesSpec Rows.peerDoesRow = true := by
  unfold joinedFacts
  repeat' (with_reducible refine Bool.and_eq_true_iff.2 ⟨?_, ?_⟩)
  all_goals first
    | with_reducible exact peerDoes_f0
    | with_reducible exact peerDoes_f1
    | with_reducible exact peerDoes_f2
    | with_reducible exact peerDoes_f3
    | with_reducible exact peerDoes_f4
    | with_reducible exact peerDoes_f5
    | kernel_rfl
theorem peerDoes_row : Rows.PeerDoesSaid :=
  OpenClaim.holds_of_wide 7 Tryz.f7 rfl rfl rfl rfl rfl rfl rfl ⟨rfl, rfl, rfl, rfl, rfl⟩ rfl rfl rfl rfl rfl (by kernel_rfl) Tryz.func7 peerDoes_closed
    (of_decide_eq_true (by kernel_rfl)) (by unfold Func.isWrapper; first | (rw [if_pos (by decide +kernel)]; kernel_rfl) | (rw [if_neg (by decide +kernel)]; exact ⟨rfl, rfl⟩))
    (fun os started H enc _ => peerDoes_lifted os started H enc)
theorem peerDoes_holds : Rows.PeerDoesCardSaid :=
  Claim7.holds_tied_plain_at .later [] [.data] true (true, "f03c22427f289bfc4ba5cb49bd33580f59919cabe073980c6345ca16740b3d24") false
    peerDoes_row (fun _ h => by cases h) (by kernel_rfl) (fun _ h => by cases h) peerDoes_row_tie rfl ⟨rfl, rfl⟩ (by kernel_rfl) rfl
    (fun f fn hf hfn => by
      obtain rfl : f = 7 := Option.some.inj ((show Tryz.prog.funcNamed "bypath/bypathlaw12.PeerDoes" = some 7 by kernel_rfl).symm.trans hf) |>.symm
      obtain rfl : fn = Tryz.f7 := (Option.some.inj (Tryz.func7.symm.trans hfn)).symm
      exact ⟨by kernel_rfl, fun j t ht => by
        rw [Tryz.params7] at ht
        have hm := Array.mem_of_getElem? ht
        have hall : (Tryz.f7.params.toList.all fun u => !Tryz.prog.wantsStandIn u) = true := by kernel_rfl
        rw [Tryz.params7] at hall
        exact (show Tryz.prog.wantsStandIn t = false by simpa using List.all_eq_true.1 hall t (Array.mem_toList_iff.2 hm))⟩)
    (by kernel_rfl)
end Go.Proofs.YteeogabkkblkgaaGreatDoor
