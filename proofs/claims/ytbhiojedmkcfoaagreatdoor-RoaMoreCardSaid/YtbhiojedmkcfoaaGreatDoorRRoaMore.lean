/- An entry more never makes a route that is right another one: the law RoaMore holds of every input, at the listed variables as the program's text lays them. No condition. -/
import Derived.Test.YtbhiojedmkcfoaaGreatDoorRows
import Derived.Test.YtbhiojedmkcfoaaGreatDoorCards
import Derived.Test.YtbhiojedmkcfoaaGreatDoorTie
import Derived.Test.YtbhiojedmkcfoaaGreatDoorRTsR
import Derived.Test.YtbhiojedmkcfoaaGreatDoorRTrX
import Derived.Test.YtbhiojedmkcfoaaGreatDoorRTrZ
import Derived.Test.YtbhiojedmkcfoaaGreatDoorRTrS
import Derived.ProofKit
import Derived.SevenTiedAt
import Derived.Stop.Joined
namespace Go.Proofs.YtbhiojedmkcfoaaGreatDoor
set_option linter.unusedVariables false
set_option linter.unusedSimpArgs false
open Go.RowKit Go.ChangeShapes
attribute [local irreducible] HC HX HO Tri eP adr

set_option maxRecDepth 100000 in
theorem roaMore_lifted (os : Os) (started : os.Started) (H : Type) (enc : TypeId × Value → H) :
    ReturnsInHanded {} Tryz.checked os 9 .any (fun w args => (Rows.roaMoreSpec.pre enc Tryz.prog Tryz.f9 [] false w args ∧ laidMetH Tryz.prog roLaid w) ∧ sizedMet enc Tryz.prog Tryz.f9 (OpenSpec.ofChange Rows.roaMoreSpec) false w args)
      (Rows.roaMoreSpec.post enc Tryz.prog Tryz.f9 false true false false) := by
  refine law_laidM (C := Tryz.checked) [.sl (.agg [.agg [.int .u32, .int .i64], .int .i64, .int .i64]), .agg [.agg [.int .u32, .int .i64], .int .i64, .int .i64], .agg [.int .u32, .int .i64], .agg [.int .i64, .sl (.agg [.bool, .sl (.int .i64)]), .int .u32, .int .i64, .int .i64, .sl (.int .i64)]] 4 (fun w => laidMetH Tryz.prog roLaid w) ro_of_heap (by kernel_rfl) started (by kernel_rfl) Tryz.func9
    (ChangeSpec.witness_shaped (enc := enc) (C := Tryz.checked) (os := os) (X := fun w _ => laidMetH Tryz.prog roLaid w) false (World.laidAll Tryz.prog os roLaid) #[.slice none 0 0, .agg #[.int .u32 0, .int .i64 0, .int .i64 0, .int .i64 0], .agg #[.int .u32 0, .int .i64 0], .agg #[.int .i64 0, .slice none 0 0, .int .u32 0, .int .i64 0, .int .i64 0, .slice none 0 0]] 8 (World.laidAll_os _ _ _)
      (World.shaped_of_ZipB (by kernel_rfl) (by kernel_rfl)) (by kernel_rfl) (by kernel_rfl) (by kernel_rfl) (ro_world os _)) rfl
    (fun ds hds => match ds, hds with | [d0, d1, d2, d3], _ => rfl) (by kernel_rfl) (by kernel_rfl) (by kernel_rfl) (by kernel_rfl) (by kernel_rfl) (fun m => [tab1, maxLen0 m]) ro_laid (fun m l ds hl hr hw => ?_)
  exact rowMore (ro0 := [tab1, maxLen0 m]) hl hr hw (by kernel_rfl) (fun A c l hn hla x hx a ha n at_ => lawMore m (lives33_t m) A c l hn hla x hx a ha n at_)
theorem roaMore_f0 : laidOutB Tryz.pinned.checked.prog = true := by kernel_rfl
theorem roaMore_f1 : mapsRowed Tryz.pinned.checked.prog = true := by kernel_rfl
theorem roaMore_f2 : (Rows.roaMoreRow.inPlace == Tryz.pinned.checked.prog.inPlace 9) = true := by kernel_rfl
theorem roaMore_f3 : (Rows.roaMoreRow.unfollowed == Tryz.pinned.checked.prog.unfollowed 9) = true := by kernel_rfl
theorem roaMore_f4 : (Rows.roaMoreRow.recurses == Tryz.pinned.checked.prog.recurses 9) = true := by kernel_rfl
theorem roaMore_f5 : (Rows.roaMoreRow.named == Tryz.pinned.checked.prog.varsNamed 9) = true := by kernel_rfl
set_option maxRecDepth 100000 in
theorem roaMore_closed : joinedFacts Tryz.pinned.checked.prog 9 Tryz.f9 Rows.roaMoreSpec Rows.roaMoreRow = true := by
  unfold joinedFacts
  repeat' (with_reducible refine Bool.and_eq_true_iff.2 ⟨?_, ?_⟩)
  all_goals first
    | with_reducible exact roaMore_f0
    | with_reducible exact roaMore_f1
    | with_reducible exact roaMore_f2
    | with_reducible exact roaMore_f3
    | with_reducible exact roaMore_f4
    | with_reducible exact roaMore_f5
    | kernel_rfl
theorem roaMore_row : Rows.RoaMoreSaid :=
  OpenClaim.holds_of_wide 9 Tryz.f9 rfl rfl rfl rfl rfl rfl rfl ⟨rfl, rfl, rfl, rfl, rfl⟩ rfl rfl rfl rfl rfl (by kernel_rfl) Tryz.func9 roaMore_closed
    (of_decide_eq_true (by kernel_rfl)) (by unfold Func.isWrapper; first | (rw [if_pos (by decide +kernel)]; kernel_rfl) | (rw [if_neg (by decide +kernel)]; exact ⟨rfl, rfl⟩))
    (fun os started H enc _ => roaMore_lifted os started H enc)
theorem roaMore_holds : Rows.RoaMoreCardSaid :=
  Claim7.holds_tied_plain_at .later [] [.data, .data, .data, .data, .sentinel, .sentinel, .pinned] true (true, "233722c866b36341adae1ffb4152d31f4a020fadcda342fdae227500de088aee") true
    roaMore_row (fun _ h => by cases h) (by kernel_rfl) (fun _ h => by cases h) roaMore_row_tie rfl ⟨rfl, rfl⟩ (by kernel_rfl) rfl
    (fun f fn hf hfn => by
      obtain rfl : f = 9 := Option.some.inj ((show Tryz.prog.funcNamed "bypath/bypathlaw33.RoaMore" = some 9 by kernel_rfl).symm.trans hf) |>.symm
      obtain rfl : fn = Tryz.f9 := (Option.some.inj (Tryz.func9.symm.trans hfn)).symm
      exact ⟨by kernel_rfl, fun j t ht => by
        rw [Tryz.params9] at ht
        have hm := Array.mem_of_getElem? ht
        have hall : (Tryz.f9.params.toList.all fun u => !Tryz.prog.wantsStandIn u) = true := by kernel_rfl
        rw [Tryz.params9] at hall
        exact (show Tryz.prog.wantsStandIn t = false by simpa using List.all_eq_true.1 hall t (Array.mem_toList_iff.2 hm))⟩)
    (by kernel_rfl)
end Go.Proofs.YtbhiojedmkcfoaaGreatDoor
