/- In whatever pieces bytes come in, what comes of them is the same: the law PeerPieces holds of every input, at the listed variables as the program's text lays them. No condition. -/
import Derived.Test.YteeogabkkblkgaaGreatDoorRows
import Derived.Test.YteeogabkkblkgaaGreatDoorCards
import Derived.Test.YteeogabkkblkgaaGreatDoorTie
import Derived.Test.YteeogabkkblkgaaGreatDoorXPLpZ
import Derived.Test.YteeogabkkblkgaaGreatDoorXPLpI
import Derived.ProofKit
import Derived.SevenTiedAt
import Derived.Stop.Joined
namespace Go.Proofs.YteeogabkkblkgaaGreatDoor
set_option linter.unusedVariables false
set_option linter.unusedSimpArgs false
open Go.RowKit Go.ChangeShapes
attribute [local irreducible] HC HX HO Tri eP adr

set_option maxRecDepth 100000 in
theorem peerPieces_lifted (os : Os) (started : os.Started) (H : Type) (enc : TypeId × Value → H) :
    ReturnsInHanded {} Tryz.checked os 3 .any (fun w args => (Rows.peerPiecesSpec.pre enc Tryz.prog Tryz.f3 [] false w args ∧ laidMetH Tryz.prog peLaid w) ∧ sizedMet enc Tryz.prog Tryz.f3 (OpenSpec.ofChange Rows.peerPiecesSpec) false w args)
      (Rows.peerPiecesSpec.post enc Tryz.prog Tryz.f3 false true false false) := by
  refine law_laid (C := Tryz.checked) [.sl (.int .u8), .int .i64] 4 (fun w => laidMetH Tryz.prog peLaid w) pe_of_heap (by kernel_rfl) started (by kernel_rfl) Tryz.func3
    (ChangeSpec.witness_shaped (enc := enc) (C := Tryz.checked) (os := os) (X := fun w _ => laidMetH Tryz.prog peLaid w) false (World.laidAll Tryz.prog os peLaid) #[.slice none 0 0, .int .i64 0] 8 (World.laidAll_os _ _ _)
      (World.shaped_of_ZipB (by kernel_rfl) (by kernel_rfl)) (by kernel_rfl) (by kernel_rfl) (by kernel_rfl) (pe_world os _)) rfl
    (fun ds hds => match ds, hds with | [d0, d1], _ => rfl) (by kernel_rfl) (by kernel_rfl) (by kernel_rfl) (by kernel_rfl) (by kernel_rfl) (fun m => [leW]) pe_laid (fun m l hl => ?_)
  exact rowPieces hl (fun A c b h n => pieces_t A c b h n)
theorem peerPieces_f0 : laidOutB Tryz.pinned.checked.prog = true := by kernel_rfl
theorem peerPieces_f1 : mapsRowed Tryz.pinned.checked.prog = true := by kernel_rfl
theorem peerPieces_f2 : (Rows.peerPiecesRow.inPlace == Tryz.pinned.checked.prog.inPlace 3) = true := by kernel_rfl
theorem peerPieces_f3 : (Rows.peerPiecesRow.unfollowed == Tryz.pinned.checked.prog.unfollowed 3) = true := by kernel_rfl
theorem peerPieces_f4 : (Rows.peerPiecesRow.recurses == Tryz.pinned.checked.prog.recurses 3) = true := by kernel_rfl
theorem peerPieces_f5 : (Rows.peerPiecesRow.named == Tryz.pinned.checked.prog.varsNamed 3) = true := by kernel_rfl
set_option maxRecDepth 100000 in
theorem peerPieces_closed : joinedFacts Tryz.pinned.checked.prog 3 Tryz.f3 Rows.peerPiecesSpec Rows.peerPiecesRow = true := by
  unfold joinedFacts
  repeat' (with_reducible refine Bool.and_eq_true_iff.2 ⟨?_, ?_⟩)
  all_goals first
    | with_reducible exact peerPieces_f0
    | with_reducible exact peerPieces_f1
    | with_reducible exact peerPieces_f2
    | with_reducible exact peerPieces_f3
    | with_reducible exact peerPieces_f4
    | with_reducible exact peerPieces_f5
    | kernel_rfl
theorem peerPieces_row : Rows.PeerPiecesSaid :=
  OpenClaim.holds_of_wide 3 Tryz.f3 rfl rfl rfl rfl rfl rfl rfl ⟨rfl, rfl, rfl, rfl, rfl⟩ rfl rfl rfl rfl rfl (by kernel_rfl) Tryz.func3 peerPieces_closed
    (of_decide_eq_true (by kernel_rfl)) (by unfold Func.isWrapper; first | (rw [if_pos (by decide +kernel)]; kernel_rfl) | (rw [if_neg (by decide +kernel)]; exact ⟨rfl, rfl⟩))
    (fun os started H enc _ => peerPieces_lifted os started H enc)
theorem peerPieces_holds : Rows.PeerPiecesCardSaid :=
  Claim7.holds_tied_plain_at .later [] [.data] true (true, "f03c22427f289bfc4ba5cb49bd33580f59919cabe073980c6345ca16740b3d24") false
    peerPieces_row (fun _ h => by cases h) (by kernel_rfl) (fun _ h => by cases h) peerPieces_row_tie rfl ⟨rfl, rfl⟩ (by kernel_rfl) rfl
    (fun f fn hf hfn => by
      obtain rfl : f = 3 := Option.some.inj ((show Tryz.prog.funcNamed "bypath/bypathlaw12.PeerPieces" = some 3 by kernel_rfl).symm.trans hf) |>.symm
      obtain rfl : fn = Tryz.f3 := (Option.some.inj (Tryz.func3.symm.trans hfn)).symm
      exact ⟨by kernel_rfl, fun j t ht => by
        rw [Tryz.params3] at ht
        have hm := Array.mem_of_getElem? ht
        have hall : (Tryz.f3.params.toList.all fun u => !Tryz.prog.wantsStandIn u) = true := by kernel_rfl
        rw [Tryz.params3] at hall
        exact (show Tryz.prog.wantsStandIn t = false by simpa using List.all_eq_true.1 hall t (Array.mem_toList_iff.2 hm))⟩)
    (by kernel_rfl)
end Go.Proofs.YteeogabkkblkgaaGreatDoor
