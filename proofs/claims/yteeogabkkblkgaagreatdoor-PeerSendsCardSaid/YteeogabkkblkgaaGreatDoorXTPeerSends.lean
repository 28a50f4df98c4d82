/- What goes out is whole messages, one behind the other: the law PeerSends holds of every input, at the listed variables as the program's text lays them. No condition. -/
import Derived.Test.YteeogabkkblkgaaGreatDoorRows
import Derived.Test.YteeogabkkblkgaaGreatDoorCards
import Derived.Test.YteeogabkkblkgaaGreatDoorTie
import Derived.Test.YteeogabkkblkgaaGreatDoorXTLpZ
import Derived.Test.YteeogabkkblkgaaGreatDoorXTLpK
import Derived.ProofKit
import Derived.SevenTiedAt
import Derived.Stop.Joined
namespace Go.Proofs.YteeogabkkblkgaaGreatDoor
set_option linter.unusedVariables false
set_option linter.unusedSimpArgs false
open Go.RowKit Go.ChangeShapes
attribute [local irreducible] HC HX HO Tri eP adr

set_option maxRecDepth 100000 in
theorem peerSends_lifted (os : Os) (started : os.Started) (H : Type) (enc : TypeId × Value → H) :
    ReturnsInHanded {} Tryz.checked os 4 .any (fun w args => (Rows.peerSendsSpec.pre enc Tryz.prog Tryz.f4 [] false w args ∧ laidMetH Tryz.prog peLaid w) ∧ sizedMet enc Tryz.prog Tryz.f4 (OpenSpec.ofChange Rows.peerSendsSpec) false w args)
      (Rows.peerSendsSpec.post enc Tryz.prog Tryz.f4 false true false false) := by
  refine law_laid (C := Tryz.checked) [.sl (.agg [.sl (.agg [.int .i64, .agg [.int .u32, .int .i64]]), .sl (.agg [.int .i64, .agg [.int .u32, .int .i64]]), .agg [.int .i64, .sl (.agg [.bool, .sl (.int .i64)]), .int .u32, .int .i64, .int .i64, .sl (.int .i64)], .bool]), .int .i64] 4 (fun w => laidMetH Tryz.prog peLaid w) pe_of_heap (by kernel_rfl) started (by kernel_rfl) Tryz.func4
    (ChangeSpec.witness_shaped (enc := enc) (C := Tryz.checked) (os := os) (X := fun w _ => laidMetH Tryz.prog peLaid w) false (World.laidAll Tryz.prog os peLaid) #[.slice none 0 0, .int .i64 0] 8 (World.laidAll_os _ _ _)
      (World.shaped_of_ZipB (by kernel_rfl) (by kernel_rfl)) (by kernel_rfl) (by kernel_rfl) (by kernel_rfl) (pe_world os _)) rfl
    (fun ds hds => match ds, hds with | [d0, d1], _ => rfl) (by kernel_rfl) (by kernel_rfl) (by kernel_rfl) (by kernel_rfl) (by kernel_rfl) (fun m => [leW]) pe_laid (fun m l hl => ?_)
  exact rowSends hl (fun A c us h n => sends_t A c us h n)
theorem peerSends_f0 : laidOutB Tryz.pinned.checked.prog = true := by kernel_rfl
theorem peerSends_f1 : mapsRowed Tryz.pinned.checked.prog = true := by kernel_rfl
theorem peerSends_f2 : (Rows.peerSendsRow.inPlace == Tryz.pinned.checked.prog.inPlace 4) = true := by kernel_rfl
theorem peerSends_f3 : (Rows.peerSendsRow.unfollowed == Tryz.pinned.checked.prog.unfollowed 4) = true := by kernel_rfl
theorem peerSends_f4 : (Rows.peerSendsRow.recurses == Tryz.pinned.checked.prog.recurses 4) = true := by kernel_rfl
theorem peerSends_f5 : (Rows.peerSendsRow.named == Tryz.pinned.checked.prog.varsNamed 4) = true := by kernel_rfl
set_option maxRecDepth 100000 in
theorem peerSends_closed : joinedFacts Tryz.pinned.checked.prog 4 Tryz.f4 Rows.peerSendsSpec Rows.peerSendsRow = true := by
  unfold joinedFacts
  repeat' (with_reducible refine Bool.and_eq_true_iff.2 ⟨?_, ?_⟩)
  all_goals first
    | with_reducible exact peerSends_f0
    | with_reducible exact peerSends_f1
    | with_reducible exact peerSends_f2
    | with_reducible exact peerSends_f3
    | with_reducible exact peerSends_f4
    | with_reducible exact peerSends_f5
    | kernel_rfl
theorem peerSends_row : Rows.PeerSendsSaid :=
  OpenClaim.holds_of_wide 4 Tryz.f4 rfl rfl rfl rfl rfl rfl rfl ⟨rfl, rfl, rfl, rfl, rfl⟩ rfl rfl rfl rfl rfl (by kernel_rfl) Tryz.func4 peerSends_closed
    (of_decide_eq_true (by kernel_rfl)) (by unfold Func.isWrapper; first | (rw [if_pos (by decide +kernel)]; kernel_rfl) | (rw [if_neg (by decide +kernel)]; exact ⟨rfl, rfl⟩))
    (fun os started H enc _ => peerSends_lifted os started H enc)
theorem peerSends_holds : Rows.PeerSendsCardSaid :=
  Claim7.holds_tied_plain_at .later [] [.data] true (true, "f03c22427f289bfc4ba5cb49bd33580f59919cabe073980c6345ca16740b3d24") false
    peerSends_row (fun _ h => by cases h) (by kernel_rfl) (fun _ h => by cases h) peerSends_row_tie rfl ⟨rfl, rfl⟩ (by kernel_rfl) rfl
    (fun f fn hf hfn => by
      obtain rfl : f = 4 := Option.some.inj ((show Tryz.prog.funcNamed "bypath/bypathlaw12.PeerSends" = some 4 by kernel_rfl).symm.trans hf) |>.symm
      obtain rfl : fn = Tryz.f4 := (Option.some.inj (Tryz.func4.symm.trans hfn)).symm
      exact ⟨by kernel_rfl, fun j t ht => by
        rw [Tryz.params4] at ht
        have hm := Array.mem_of_getElem? ht
        have hall : (Tryz.f4.params.toList.all fun u => !Tryz.prog.wantsStandIn u) = true := by kernel_rfl
        rw [Tryz.params4] at hall
        exact (show Tryz.prog.wantsStandIn t = false by simpa using List.all_eq_true.1 hall t (Array.mem_toList_iff.2 hm))⟩)
    (by kernel_rfl)
end Go.Proofs.YteeogabkkblkgaaGreatDoor
