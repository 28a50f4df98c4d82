/- An established peer that falls tells its note at last, and nothing waits then: the law PeerFalls holds of every input, at the listed variables as the program's text lays them. No condition. -/
import Derived.Test.YteeogabkkblkgaaGreatDoorRows
import Derived.Test.YteeogabkkblkgaaGreatDoorCards
import Derived.Test.YteeogabkkblkgaaGreatDoorTie
import Derived.Test.YteeogabkkblkgaaGreatDoorXFLpZ
import Derived.Test.YteeogabkkblkgaaGreatDoorXFLpJ
import Derived.ProofKit
import Derived.SevenTiedAt
import Derived.Stop.Joined
namespace Go.Proofs.YteeogabkkblkgaaGreatDoor
set_option linter.unusedVariables false
set_option linter.unusedSimpArgs false
open Go.RowKit Go.ChangeShapes
attribute [local irreducible] HC HX HO Tri eP adr

set_option maxRecDepth 100000 in
theorem peerFalls_lifted (os : Os) (started : os.Started) (H : Type) (enc : TypeId × Value → H) :
    ReturnsInHanded {} Tryz.checked os 6 .any (fun w args => (Rows.peerFallsSpec.pre enc Tryz.prog Tryz.f6 [] false w args ∧ laidMetH Tryz.prog peLaid w) ∧ sizedMet enc Tryz.prog Tryz.f6 (OpenSpec.ofChange Rows.peerFallsSpec) false w args)
      (Rows.peerFallsSpec.post enc Tryz.prog Tryz.f6 false true false false) := by
  refine law_laid (C := Tryz.checked) [.agg [.int .i64, .int .i64, .sl (.int .u8)], .int .i64] 4 (fun w => laidMetH Tryz.prog peLaid w) pe_of_heap (by kernel_rfl) started (by kernel_rfl) Tryz.func6
    (ChangeSpec.witness_shaped (enc := enc) (C := Tryz.checked) (os := os) (X := fun w _ => laidMetH Tryz.prog peLaid w) false (World.laidAll Tryz.prog os peLaid) #[.agg #[.int .i64 0, .int .i64 0, .slice none 0 0], .int .i64 0] 8 (World.laidAll_os _ _ _)
      (World.shaped_of_ZipB (by kernel_rfl) (by kernel_rfl)) (by kernel_rfl) (by kernel_rfl) (by kernel_rfl) (pe_world os _)) rfl
    (fun ds hds => match ds, hds with | [d0, d1], _ => rfl) (by kernel_rfl) (by kernel_rfl) (by kernel_rfl) (by kernel_rfl) (by kernel_rfl) (fun m => [leW]) pe_laid (fun m l hl => ?_)
  exact rowFalls hl (fun c s A k d n => falls_t c s A k d n)
theorem peerFalls_f0 : laidOutB Tryz.pinned.checked.prog = true := by kernel_rfl
theorem peerFalls_f1 : mapsRowed Tryz.pinned.checked.prog = true := by kernel_rfl
theorem peerFalls_f2 : (Rows.peerFallsRow.inPlace == Tryz.pinned.checked.prog.inPlace 6) = true := by kernel_rfl
theorem peerFalls_f3 : (Rows.peerFallsRow.unfollowed == Tryz.pinned.checked.prog.unfollowed 6) = true := by kernel_rfl
theorem peerFalls_f4 : (Rows.peerFallsRow.recurses == Tryz.pinned.checked.prog.recurses 6) = true := by kernel_rfl
theorem peerFalls_f5 : (Rows.peerFallsRow.named == Tryz.pinned.checked.prog.varsNamed 6) = true := by kernel_rfl
set_option maxRecDepth 100000 in
theorem peerFalls_closed : joinedFacts Tryz.pinned.checked.prog 6 Tryz.f6 Rows.peerFallsSpec Rows.peerFallsRow = true := by
  unfold joinedFacts
  repeat' (with_reducible refine Bool.and_eq_true_iff.2 ⟨?_, ?_⟩)
  all_goals first
    | with_reducible exact peerFalls_f0
    | with_reducible exact peerFalls_f1
    | with_reducible exact peerFalls_f2
    | with_reducible exact peerFalls_f3
    | with_reducible exact peerFalls_f4
    | with_reducible exact peerFalls_f5
    | kernel_rfl
theorem peerFalls_row : Rows.PeerFallsSaid :=
  OpenClaim.holds_of_wide 6 Tryz.f6 rfl rfl rfl rfl rfl rfl rfl ⟨rfl, rfl, rfl, rfl, rfl⟩ rfl rfl rfl rfl rfl (by kernel_rfl) Tryz.func6 peerFalls_closed
    (of_decide_eq_true (by kernel_rfl)) (by unfold Func.isWrapper; first | (rw [if_pos (by decide +kernel)]; kernel_rfl) | (rw [if_neg (by decide +kernel)]; exact ⟨rfl, rfl⟩))
    (fun os started H enc _ => peerFalls_lifted os started H enc)
theorem peerFalls_holds : Rows.PeerFallsCardSaid :=
  Claim7.holds_tied_plain_at .later [] [.data] true (true, "f03c22427f289bfc4ba5cb49bd33580f59919cabe073980c6345ca16740b3d24") false
    peerFalls_row (fun _ h => by cases h) (by kernel_rfl) (fun _ h => by cases h) peerFalls_row_tie rfl ⟨rfl, rfl⟩ (by kernel_rfl) rfl
    (fun f fn hf hfn => by
      obtain rfl : f = 6 := Option.some.inj ((show Tryz.prog.funcNamed "bypath/bypathlaw12.PeerFalls" = some 6 by kernel_rfl).symm.trans hf) |>.symm
      obtain rfl : fn = Tryz.f6 := (Option.some.inj (Tryz.func6.symm.trans hfn)).symm
      exact ⟨by kernel_rfl, fun j t ht => by
        rw [Tryz.params6] at ht
        have hm := Array.mem_of_getElem? ht
        have hall : (Tryz.f6.params.toList.all fun u => !Tryz.prog.wantsStandIn u) = true := by kernel_rfl
        rw [Tryz.params6] at hall
        exact (show Tryz.prog.wantsStandIn t = false by simpa using List.all_eq_true.1 hall t (Array.mem_toList_iff.2 hm))⟩)
    (by kernel_rfl)
end Go.Proofs.YteeogabkkblkgaaGreatDoor
