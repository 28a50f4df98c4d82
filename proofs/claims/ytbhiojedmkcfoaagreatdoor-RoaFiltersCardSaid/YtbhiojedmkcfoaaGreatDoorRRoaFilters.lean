/- What is left of any update: the law RoaFilters holds of every input, at the listed variables as the program's text lays them. No condition. -/
import Derived.Test.YtbhiojedmkcfoaaGreatDoorRows
import Derived.Test.YtbhiojedmkcfoaaGreatDoorCards
import Derived.Test.YtbhiojedmkcfoaaGreatDoorTie
import Derived.Test.YtbhiojedmkcfoaaGreatDoorRTsR
import Derived.Test.YtbhiojedmkcfoaaGreatDoorRTrX
import Derived.Test.YtbhiojedmkcfoaaGreatDoorRTrZ
import Derived.Test.YtbhiojedmkcfoaaGreatDoorRTsB
import Derived.ProofKit
import Derived.SevenTiedAt
import Derived.Stop.Joined
namespace Go.Proofs.YtbhiojedmkcfoaaGreatDoor
set_option linter.unusedVariables false
set_option linter.unusedSimpArgs false
open Go.RowKit Go.ChangeShapes
attribute [local irreducible] HC HX HO Tri eP adr

set_option maxRecDepth 100000 in
theorem roaFilters_lifted (os : Os) (started : os.Started) (H : Type) (enc : TypeId × Value → H) :
    ReturnsInHanded {} Tryz.checked os 8 .any (fun w args => (Rows.roaFiltersSpec.pre enc Tryz.prog Tryz.f8 [] false w args ∧ laidMetH Tryz.prog roLaid w) ∧ sizedMet enc Tryz.prog Tryz.f8 (OpenSpec.ofChange Rows.roaFiltersSpec) false w args)
      (Rows.roaFiltersSpec.post enc Tryz.prog Tryz.f8 false true false false) := by
  refine law_laid (C := Tryz.checked) [.sl (.agg [.agg [.int .u32, .int .i64], .int .i64, .int .i64]), .agg [.sl (.agg [.int .i64, .agg [.int .u32, .int .i64]]), .sl (.agg [.int .i64, .agg [.int .u32, .int .i64]]), .agg [.int .i64, .sl (.agg [.bool, .sl (.int .i64)]), .int .u32, .int .i64, .int .i64, .sl (.int .i64)], .bool]] 4 (fun w => laidMetH Tryz.prog roLaid w) ro_of_heap (by kernel_rfl) started (by kernel_rfl) Tryz.func8
    (ChangeSpec.witness_shaped (enc := enc) (C := Tryz.checked) (os := os) (X := fun w _ => laidMetH Tryz.prog roLaid w) false (World.laidAll Tryz.prog os roLaid) #[.slice none 0 0, .agg #[.slice none 0 0, .slice none 0 0, .int .i64 0, .slice none 0 0, .int .u32 0, .int .i64 0, .int .i64 0, .slice none 0 0, .bool false]] 8 (World.laidAll_os _ _ _)
      (World.shaped_of_ZipB (by kernel_rfl) (by kernel_rfl)) (by kernel_rfl) (by kernel_rfl) (by kernel_rfl) (ro_world os _)) rfl
    (fun ds hds => match ds, hds with | [d0, d1], _ => rfl) (by kernel_rfl) (by kernel_rfl) (by kernel_rfl) (by kernel_rfl) (by kernel_rfl) (fun m => [tab1, maxLen0 m]) ro_laid (fun m l hl => ?_)
  exact rowFilters (ro0 := [tab1, maxLen0 m]) hl (fun A c l hla u hN => lawFilters m (lives33_t m) A c l hla u hN)
theorem roaFilters_f0 : laidOutB Tryz.pinned.checked.prog = true := by kernel_rfl
theorem roaFilters_f1 : mapsRowed Tryz.pinned.checked.prog = true := by kernel_rfl
theorem roaFilters_f2 : (Rows.roaFiltersRow.inPlace == Tryz.pinned.checked.prog.inPlace 8) = true := by kernel_rfl
theorem roaFilters_f3 : (Rows.roaFiltersRow.unfollowed == Tryz.pinned.checked.prog.unfollowed 8) = true := by kernel_rfl
theorem roaFilters_f4 : (Rows.roaFiltersRow.recurses == Tryz.pinned.checked.prog.recurses 8) = true := by kernel_rfl
theorem roaFilters_f5 : (Rows.roaFiltersRow.named == Tryz.pinned.checked.prog.varsNamed 8) = true := by kernel_rfl
set_option maxRecDepth 100000 in
theorem roaFilters_closed : joinedFacts Tryz.pinned.checked.prog 8 Tryz.f8 Rows.roaFiltersSpec Rows.roaFiltersRow = true := by
  unfold joinedFacts
  repeat' (with_reducible refine Bool.and_eq_true_iff.2 ⟨?_, ?_⟩)
  all_goals first
    | with_reducible exact roaFilters_f0
    | with_reducible exact roaFilters_f1
    | with_reducible exact roaFilters_f2
    | with_reducible exact roaFilters_f3
    | with_reducible exact roaFilters_f4
    | with_reducible exact roaFilters_f5
    | kernel_rfl
theorem roaFilters_row : Rows.RoaFiltersSaid :=
  OpenClaim.holds_of_wide 8 Tryz.f8 rfl rfl rfl rfl rfl rfl rfl ⟨rfl, rfl, rfl, rfl, rfl⟩ rfl rfl rfl rfl rfl (by kernel_rfl) Tryz.func8 roaFilters_closed
    (of_decide_eq_true (by kernel_rfl)) (by unfold Func.isWrapper; first | (rw [if_pos (by decide +kernel)]; kernel_rfl) | (rw [if_neg (by decide +kernel)]; exact ⟨rfl, rfl⟩))
    (fun os started H enc _ => roaFilters_lifted os started H enc)
theorem roaFilters_holds : Rows.RoaFiltersCardSaid :=
  Claim7.holds_tied_plain_at .later [] [.data, .data, .data, .data, .sentinel, .sentinel, .pinned] true (true, "233722c866b36341adae1ffb4152d31f4a020fadcda342fdae227500de088aee") true
    roaFilters_row (fun _ h => by cases h) (by kernel_rfl) (fun _ h => by cases h) roaFilters_row_tie rfl ⟨rfl, rfl⟩ (by kernel_rfl) rfl
    (fun f fn hf hfn => by
      obtain rfl : f = 8 := Option.some.inj ((show Tryz.prog.funcNamed "bypath/bypathlaw33.RoaFilters" = some 8 by kernel_rfl).symm.trans hf) |>.symm
      obtain rfl : fn = Tryz.f8 := (Option.some.inj (Tryz.func8.symm.trans hfn)).symm
      exact ⟨by kernel_rfl, fun j t ht => by
        rw [Tryz.params8] at ht
        have hm := Array.mem_of_getElem? ht
        have hall : (Tryz.f8.params.toList.all fun u => !Tryz.prog.wantsStandIn u) = true := by kernel_rfl
        rw [Tryz.params8] at hall
        exact (show Tryz.prog.wantsStandIn t = false by simpa using List.all_eq_true.1 hall t (Array.mem_toList_iff.2 hm))⟩)
    (by kernel_rfl)
end Go.Proofs.YtbhiojedmkcfoaaGreatDoor
