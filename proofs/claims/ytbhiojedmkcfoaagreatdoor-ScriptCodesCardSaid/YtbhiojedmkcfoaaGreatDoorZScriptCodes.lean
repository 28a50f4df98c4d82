/- Which scripts may be, and their bytes; they are decoded: the law ScriptCodes holds of every input, at the listed variables as the program's text lays them. No condition. -/
import Derived.Test.YtbhiojedmkcfoaaGreatDoorRows
import Derived.Test.YtbhiojedmkcfoaaGreatDoorCards
import Derived.Test.YtbhiojedmkcfoaaGreatDoorTie
import Derived.Test.YtbhiojedmkcfoaaGreatDoorZCgR
import Derived.Test.YtbhiojedmkcfoaaGreatDoorZScZ
import Derived.Test.YtbhiojedmkcfoaaGreatDoorZSdM
import Derived.ProofKit
import Derived.SevenTiedAt
import Derived.Stop.Joined
namespace Go.Proofs.YtbhiojedmkcfoaaGreatDoor
set_option linter.unusedVariables false
set_option linter.unusedSimpArgs false
open Go.RowKit Go.ChangeShapes
attribute [local irreducible] HC HX HO Tri eP adr

set_option maxRecDepth 100000 in
theorem scriptCodes_lifted (os : Os) (started : os.Started) (H : Type) (enc : TypeId × Value → H) :
    ReturnsInHanded {} Tryz.checked os 10 .any (fun w args => (Rows.scriptCodesSpec.pre enc Tryz.prog Tryz.f10 [] false w args ∧ laidMetH Tryz.prog cfLaid w) ∧ sizedMet enc Tryz.prog Tryz.f10 (OpenSpec.ofChange Rows.scriptCodesSpec) false w args)
      (Rows.scriptCodesSpec.post enc Tryz.prog Tryz.f10 false true false false) := by
  refine law_laid (C := Tryz.checked) [.agg [.agg [.int .i64, .int .u32, .int .i64, .int .i64, .int .i64, .int .i64, .int .i64, .sl (.agg [.int .i64, .int .i64, .agg [.int .u32, .int .i64], .int .i64]), .int .i64, .int .i64, .int .i64, .int .i64, .int .i64, .int .i64, .int .i64, .int .i64, .int .i64, .sl (.int .i64), .int .i64, .int .i64], .sl (.agg [.int .i64, .int .i64, .int .i64, .sl (.int .u8), .agg [.int .i64, .int .i64, .sl (.agg [.agg [.int .u32, .int .i64], .int .i64])], .agg [.int .i64, .int .i64, .sl (.agg [.int .i64, .int .i64, .bool])]])], .agg [.agg [.int .i64, .int .u32, .int .i64, .int .i64, .int .i64, .int .i64, .int .i64, .sl (.agg [.int .i64, .int .i64, .agg [.int .u32, .int .i64], .int .i64]), .int .i64, .int .i64, .int .i64, .int .i64, .int .i64, .int .i64, .int .i64, .int .i64, .int .i64, .sl (.int .i64), .int .i64, .int .i64], .sl (.agg [.int .i64, .int .i64, .int .i64, .sl (.int .u8), .agg [.int .i64, .int .i64, .sl (.agg [.agg [.int .u32, .int .i64], .int .i64])], .agg [.int .i64, .int .i64, .sl (.agg [.int .i64, .int .i64, .bool])]])]] 4 (fun w => laidMetH Tryz.prog cfLaid w) cf_of_heap (by kernel_rfl) started (by kernel_rfl) Tryz.func10
    (ChangeSpec.witness_shaped (enc := enc) (C := Tryz.checked) (os := os) (X := fun w _ => laidMetH Tryz.prog cfLaid w) false (World.laidAll Tryz.prog os cfLaid) #[.agg #[.int .i64 0, .int .u32 0, .int .i64 0, .int .i64 0, .int .i64 0, .int .i64 0, .int .i64 0, .slice none 0 0, .int .i64 0, .int .i64 0, .int .i64 0, .int .i64 0, .int .i64 0, .int .i64 0, .int .i64 0, .int .i64 0, .int .i64 0, .slice none 0 0, .int .i64 0, .int .i64 0, .slice none 0 0], .agg #[.int .i64 0, .int .u32 0, .int .i64 0, .int .i64 0, .int .i64 0, .int .i64 0, .int .i64 0, .slice none 0 0, .int .i64 0, .int .i64 0, .int .i64 0, .int .i64 0, .int .i64 0, .int .i64 0, .int .i64 0, .int .i64 0, .int .i64 0, .slice none 0 0, .int .i64 0, .int .i64 0, .slice none 0 0]] 8 (World.laidAll_os _ _ _)
      (World.shaped_of_ZipB (by kernel_rfl) (by kernel_rfl)) (by kernel_rfl) (by kernel_rfl) (by kernel_rfl) (cf_world os _)) rfl
    (fun ds hds => match ds, hds with | [d0, d1], _ => rfl) (by kernel_rfl) (by kernel_rfl) (by kernel_rfl) (by kernel_rfl) (by kernel_rfl) (fun m => [tab1, glW, maxLen0 m]) pieces_laid (fun m l hl => ?_)
  exact rowS2 (ro0 := [tab1, glW, maxLen0 m]) hl (fun s t hs ht => lawCodes m s t hs ht)
theorem scriptCodes_f0 : laidOutB Tryz.pinned.checked.prog = true := by kernel_rfl
theorem scriptCodes_f1 : mapsRowed Tryz.pinned.checked.prog = true := by kernel_rfl
theorem scriptCodes_f2 : (Rows.scriptCodesRow.inPlace == Tryz.pinned.checked.prog.inPlace 10) = true := by kernel_rfl
theorem scriptCodes_f3 : (Rows.scriptCodesRow.unfollowed == Tryz.pinned.checked.prog.unfollowed 10) = true := by kernel_rfl
theorem scriptCodes_f4 : (Rows.scriptCodesRow.recurses == Tryz.pinned.checked.prog.recurses 10) = true := by kernel_rfl
theorem scriptCodes_f5 : (Rows.scriptCodesRow.named == Tryz.pinned.checked.prog.varsNamed 10) = true := by kernel_rfl
set_option maxRecDepth 100000 in
theorem scriptCodes_closed : joinedFacts Tryz.pinned.checked.prog 10 Tryz.f10 Rows.scriptCodesSpec Rows.scriptCodesRow = true := by
  unfold joinedFacts
  repeat' (with_reducible refine Bool.and_eq_true_iff.2 ⟨?_, ?_⟩)
  all_goals first
    | with_reducible exact scriptCodes_f0
    | with_reducible exact scriptCodes_f1
    | with_reducible exact scriptCodes_f2
    | with_reducible exact scriptCodes_f3
    | with_reducible exact scriptCodes_f4
    | with_reducible exact scriptCodes_f5
    | kernel_rfl
theorem scriptCodes_row : Rows.ScriptCodesSaid :=
  OpenClaim.holds_of_wide 10 Tryz.f10 rfl rfl rfl rfl rfl rfl rfl ⟨rfl, rfl, rfl, rfl, rfl⟩ rfl rfl rfl rfl rfl (by kernel_rfl) Tryz.func10 scriptCodes_closed
    (of_decide_eq_true (by kernel_rfl)) (by unfold Func.isWrapper; first | (rw [if_pos (by decide +kernel)]; kernel_rfl) | (rw [if_neg (by decide +kernel)]; exact ⟨rfl, rfl⟩))
    (fun os started H enc _ => scriptCodes_lifted os started H enc)
theorem scriptCodes_holds : Rows.ScriptCodesCardSaid :=
  Claim7.holds_tied_plain_at .later [] [.data, .data, .data, .data, .sentinel, .sentinel, .data, .pinned] true (true, "233722c866b36341adae1ffb4152d31f4a020fadcda342fdae227500de088aee") true
    scriptCodes_row (fun _ h => by cases h) (by kernel_rfl) (fun _ h => by cases h) scriptCodes_row_tie rfl ⟨rfl, rfl⟩ (by kernel_rfl) rfl
    (fun f fn hf hfn => by
      obtain rfl : f = 10 := Option.some.inj ((show Tryz.prog.funcNamed "bypath/bypathlaw27.ScriptCodes" = some 10 by kernel_rfl).symm.trans hf) |>.symm
      obtain rfl : fn = Tryz.f10 := (Option.some.inj (Tryz.func10.symm.trans hfn)).symm
      exact ⟨by kernel_rfl, fun j t ht => by
        rw [Tryz.params10] at ht
        have hm := Array.mem_of_getElem? ht
        have hall : (Tryz.f10.params.toList.all fun u => !Tryz.prog.wantsStandIn u) = true := by kernel_rfl
        rw [Tryz.params10] at hall
        exact (show Tryz.prog.wantsStandIn t = false by simpa using List.all_eq_true.1 hall t (Array.mem_toList_iff.2 hm))⟩)
    (by kernel_rfl)
end Go.Proofs.YtbhiojedmkcfoaaGreatDoor
