/- A script with a thing more has its bytes ahead of that thing's: the law ScriptAdds holds of every input, at the listed variables as the program's text lays them. No condition. -/
import Derived.Test.YtbhiojedmkcfoaaGreatDoorRows
import Derived.Test.YtbhiojedmkcfoaaGreatDoorCards
import Derived.Test.YtbhiojedmkcfoaaGreatDoorTie
import Derived.Test.YtbhiojedmkcfoaaGreatDoorZCgR
import Derived.Test.YtbhiojedmkcfoaaGreatDoorZSdO
import Derived.ProofKit
import Derived.SevenTiedAt
import Derived.Stop.Joined
namespace Go.Proofs.YtbhiojedmkcfoaaGreatDoor
set_option linter.unusedVariables false
set_option linter.unusedSimpArgs false
open Go.RowKit Go.ChangeShapes
attribute [local irreducible] HC HX HO Tri eP adr

set_option maxRecDepth 100000 in
theorem scriptAdds_lifted (os : Os) (started : os.Started) (H : Type) (enc : TypeId × Value → H) :
    ReturnsInHanded {} Tryz.checked os 12 .any (fun w args => (Rows.scriptAddsSpec.pre enc Tryz.prog Tryz.f12 [] false w args ∧ laidMetH Tryz.prog cfLaid w) ∧ sizedMet enc Tryz.prog Tryz.f12 (OpenSpec.ofChange Rows.scriptAddsSpec) false w args)
      (Rows.scriptAddsSpec.post enc Tryz.prog Tryz.f12 false true false false) := by
  refine law_laidM (C := Tryz.checked) [.agg [.agg [.int .i64, .int .u32, .int .i64, .int .i64, .int .i64, .int .i64, .int .i64, .sl (.agg [.int .i64, .int .i64, .agg [.int .u32, .int .i64], .int .i64]), .int .i64, .int .i64, .int .i64, .int .i64, .int .i64, .int .i64, .int .i64, .int .i64, .int .i64, .sl (.int .i64), .int .i64, .int .i64], .sl (.agg [.int .i64, .int .i64, .int .i64, .sl (.int .u8), .agg [.int .i64, .int .i64, .sl (.agg [.agg [.int .u32, .int .i64], .int .i64])], .agg [.int .i64, .int .i64, .sl (.agg [.int .i64, .int .i64, .bool])]])], .agg [.int .i64, .int .i64, .int .i64, .sl (.int .u8), .agg [.int .i64, .int .i64, .sl (.agg [.agg [.int .u32, .int .i64], .int .i64])], .agg [.int .i64, .int .i64, .sl (.agg [.int .i64, .int .i64, .bool])]]] 4 (fun w => laidMetH Tryz.prog cfLaid w) cf_of_heap (by kernel_rfl) started (by kernel_rfl) Tryz.func12
    (ChangeSpec.witness_shaped (enc := enc) (C := Tryz.checked) (os := os) (X := fun w _ => laidMetH Tryz.prog cfLaid w) false (World.laidAll Tryz.prog os cfLaid) #[.agg #[.int .i64 0, .int .u32 0, .int .i64 0, .int .i64 0, .int .i64 0, .int .i64 0, .int .i64 0, .slice none 0 0, .int .i64 0, .int .i64 0, .int .i64 0, .int .i64 0, .int .i64 0, .int .i64 0, .int .i64 0, .int .i64 0, .int .i64 0, .slice none 0 0, .int .i64 0, .int .i64 0, .slice none 0 0], .agg #[.int .i64 0, .int .i64 0, .int .i64 0, .slice none 0 0, .int .i64 0, .int .i64 0, .slice none 0 0, .int .i64 0, .int .i64 0, .slice none 0 0]] 8 (World.laidAll_os _ _ _)
      (World.shaped_of_ZipB (by kernel_rfl) (by kernel_rfl)) (by kernel_rfl) (by kernel_rfl) (by kernel_rfl) (cf_world os _)) rfl
    (fun ds hds => match ds, hds with | [d0, d1], _ => rfl) (by kernel_rfl) (by kernel_rfl) (by kernel_rfl) (by kernel_rfl) (by kernel_rfl) (fun m => [tab1, glW, maxLen0 m]) pieces_laid (fun m l ds hl hr hw => ?_)
  exact rowSDm (ro0 := [tab1, glW, maxLen0 m]) hl hr hw (fun s d hs hd hn => lawAdds m s d hs hd hn)
theorem scriptAdds_f0 : laidOutB Tryz.pinned.checked.prog = true := by kernel_rfl
theorem scriptAdds_f1 : mapsRowed Tryz.pinned.checked.prog = true := by kernel_rfl
theorem scriptAdds_f2 : (Rows.scriptAddsRow.inPlace == Tryz.pinned.checked.prog.inPlace 12) = true := by kernel_rfl
theorem scriptAdds_f3 : (Rows.scriptAddsRow.unfollowed == Tryz.pinned.checked.prog.unfollowed 12) = true := by kernel_rfl
theorem scriptAdds_f4 : (Rows.scriptAddsRow.recurses == Tryz.pinned.checked.prog.recurses 12) = true := by kernel_rfl
theorem scriptAdds_f5 : (Rows.scriptAddsRow.named == Tryz.pinned.checked.prog.varsNamed 12) = true := by kernel_rfl
set_option maxRecDepth 100000 in
theorem scriptAdds_closed : joinedFacts Tryz.pinned.checked.prog 12 Tryz.f12 Rows.scriptAddsSpec Rows.scriptAddsRow = true := by
  unfold joinedFacts
  repeat' (with_reducible refine Bool.and_eq_true_iff.2 ⟨?_, ?_⟩)
  all_goals first
    | with_reducible exact scriptAdds_f0
    | with_reducible exact scriptAdds_f1
    | with_reducible exact scriptAdds_f2
    | with_reducible exact scriptAdds_f3
    | with_reducible exact scriptAdds_f4
    | with_reducible exact scriptAdds_f5
    | kernel_rfl
theorem scriptAdds_row : Rows.ScriptAddsSaid :=
  OpenClaim.holds_of_wide 12 Tryz.f12 rfl rfl rfl rfl rfl rfl rfl ⟨rfl, rfl, rfl, rfl, rfl⟩ rfl rfl rfl rfl rfl (by kernel_rfl) Tryz.func12 scriptAdds_closed
    (of_decide_eq_true (by kernel_rfl)) (by unfold Func.isWrapper; first | (rw [if_pos (by decide +kernel)]; kernel_rfl) | (rw [if_neg (by decide +kernel)]; exact ⟨rfl, rfl⟩))
    (fun os started H enc _ => scriptAdds_lifted os started H enc)
theorem scriptAdds_holds : Rows.ScriptAddsCardSaid :=
  Claim7.holds_tied_plain_at .later [] [.data, .data, .data, .data, .sentinel, .sentinel, .data, .pinned] true (true, "233722c866b36341adae1ffb4152d31f4a020fadcda342fdae227500de088aee") true
    scriptAdds_row (fun _ h => by cases h) (by kernel_rfl) (fun _ h => by cases h) scriptAdds_row_tie rfl ⟨rfl, rfl⟩ (by kernel_rfl) rfl
    (fun f fn hf hfn => by
      obtain rfl : f = 12 := Option.some.inj ((show Tryz.prog.funcNamed "bypath/bypathlaw27.ScriptAdds" = some 12 by kernel_rfl).symm.trans hf) |>.symm
      obtain rfl : fn = Tryz.f12 := (Option.some.inj (Tryz.func12.symm.trans hfn)).symm
      exact ⟨by kernel_rfl, fun j t ht => by
        rw [Tryz.params12] at ht
        have hm := Array.mem_of_getElem? ht
        have hall : (Tryz.f12.params.toList.all fun u => !Tryz.prog.wantsStandIn u) = true := by kernel_rfl
        rw [Tryz.params12] at hall
        exact (show Tryz.prog.wantsStandIn t = false by simpa using List.all_eq_true.1 hall t (Array.mem_toList_iff.2 hm))⟩)
    (by kernel_rfl)
end Go.Proofs.YtbhiojedmkcfoaaGreatDoor
