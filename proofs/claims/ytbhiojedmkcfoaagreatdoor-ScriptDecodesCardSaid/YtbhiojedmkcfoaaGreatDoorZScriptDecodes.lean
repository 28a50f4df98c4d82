/- What any bytes are as a script; what was decoded has these bytes: the law ScriptDecodes holds of every input, at the listed variables as the program's text lays them. No condition. -/
import Derived.Test.YtbhiojedmkcfoaaGreatDoorRows
import Derived.Test.YtbhiojedmkcfoaaGreatDoorCards
import Derived.Test.YtbhiojedmkcfoaaGreatDoorTie
import Derived.Test.YtbhiojedmkcfoaaGreatDoorZCgR
import Derived.Test.YtbhiojedmkcfoaaGreatDoorZScZ
import Derived.Test.YtbhiojedmkcfoaaGreatDoorZSdN
import Derived.ProofKit
import Derived.SevenTiedAt
import Derived.Stop.Joined
namespace Go.Proofs.YtbhiojedmkcfoaaGreatDoor
set_option linter.unusedVariables false
set_option linter.unusedSimpArgs false
open Go.RowKit Go.ChangeShapes
attribute [local irreducible] HC HX HO Tri eP adr

set_option maxRecDepth 100000 in
theorem scriptDecodes_lifted (os : Os) (started : os.Started) (H : Type) (enc : TypeId × Value → H) :
    ReturnsInHanded {} Tryz.checked os 11 .any (fun w args => (Rows.scriptDecodesSpec.pre enc Tryz.prog Tryz.f11 [] false w args ∧ laidMetH Tryz.prog cfLaid w) ∧ sizedMet enc Tryz.prog Tryz.f11 (OpenSpec.ofChange Rows.scriptDecodesSpec) false w args)
      (Rows.scriptDecodesSpec.post enc Tryz.prog Tryz.f11 false true false false) := by
  refine law_laid (C := Tryz.checked) [.sl (.int .u8)] 4 (fun w => laidMetH Tryz.prog cfLaid w) cf_of_heap (by kernel_rfl) started (by kernel_rfl) Tryz.func11
    (ChangeSpec.witness_shaped (enc := enc) (C := Tryz.checked) (os := os) (X := fun w _ => laidMetH Tryz.prog cfLaid w) false (World.laidAll Tryz.prog os cfLaid) #[.slice none 0 0] 8 (World.laidAll_os _ _ _)
      (World.shaped_of_ZipB (by kernel_rfl) (by kernel_rfl)) (by kernel_rfl) (by kernel_rfl) (by kernel_rfl) (cf_world os _)) rfl
    (fun ds hds => match ds, hds with | [d0], _ => rfl) (by kernel_rfl) (by kernel_rfl) (by kernel_rfl) (by kernel_rfl) (by kernel_rfl) (fun m => [tab1, glW, maxLen0 m]) pieces_laid (fun m l hl => ?_)
  exact rowB (ro0 := [tab1, glW, maxLen0 m]) hl (fun A c b _ => lawDecodes m A c b)
theorem scriptDecodes_f0 : laidOutB Tryz.pinned.checked.prog = true := by kernel_rfl
theorem scriptDecodes_f1 : mapsRowed Tryz.pinned.checked.prog = true := by kernel_rfl
theorem scriptDecodes_f2 : (Rows.scriptDecodesRow.inPlace == Tryz.pinned.checked.prog.inPlace 11) = true := by kernel_rfl
theorem scriptDecodes_f3 : (Rows.scriptDecodesRow.unfollowed == Tryz.pinned.checked.prog.unfollowed 11) = true := by kernel_rfl
theorem scriptDecodes_f4 : (Rows.scriptDecodesRow.recurses == Tryz.pinned.checked.prog.recurses 11) = true := by kernel_rfl
theorem scriptDecodes_f5 : (Rows.scriptDecodesRow.named == Tryz.pinned.checked.prog.varsNamed 11) = true := by kernel_rfl
set_option maxRecDepth 100000 in
theorem scriptDecodes_closed : joinedFacts Tryz.pinned.checked.prog 11 Tryz.f11 Rows.scriptDecodesSpec Rows.scriptDecodesRow = true := by
  unfold joinedFacts
  repeat' (with_reducible refine Bool.and_eq_true_iff.2 ⟨?_, ?_⟩)
  all_goals first
    | with_reducible exact scriptDecodes_f0
    | with_reducible exact scriptDecodes_f1
    | with_reducible exact scriptDecodes_f2
    | with_reducible exact scriptDecodes_f3
    | with_reducible exact scriptDecodes_f4
    | with_reducible exact scriptDecodes_f5
    | kernel_rfl
theorem scriptDecodes_row : Rows.ScriptDecodesSaid :=
  OpenClaim.holds_of_wide 11 Tryz.f11 rfl rfl rfl rfl rfl rfl rfl ⟨rfl, rfl, rfl, rfl, rfl⟩ rfl rfl rfl rfl rfl (by kernel_rfl) Tryz.func11 scriptDecodes_closed
    (of_decide_eq_true (by kernel_rfl)) (by unfold Func.isWrapper; first | (rw [if_pos (by decide +kernel)]; kernel_rfl) | (rw [if_neg (by decide +kernel)]; exact ⟨rfl, rfl⟩))
    (fun os started H enc _ => scriptDecodes_lifted os started H enc)
theorem scriptDecodes_holds : Rows.ScriptDecodesCardSaid :=
  Claim7.holds_tied_plain_at .later [] [.data, .data, .data, .data, .sentinel, .sentinel, .data, .pinned] true (true, "233722c866b36341adae1ffb4152d31f4a020fadcda342fdae227500de088aee") true
    scriptDecodes_row (fun _ h => by cases h) (by kernel_rfl) (fun _ h => by cases h) scriptDecodes_row_tie rfl ⟨rfl, rfl⟩ (by kernel_rfl) rfl
    (fun f fn hf hfn => by
      obtain rfl : f = 11 := Option.some.inj ((show Tryz.prog.funcNamed "bypath/bypathlaw27.ScriptDecodes" = some 11 by kernel_rfl).symm.trans hf) |>.symm
      obtain rfl : fn = Tryz.f11 := (Option.some.inj (Tryz.func11.symm.trans hfn)).symm
      exact ⟨by kernel_rfl, fun j t ht => by
        rw [Tryz.params11] at ht
        have hm := Array.mem_of_getElem? ht
        have hall : (Tryz.f11.params.toList.all fun u => !Tryz.prog.wantsStandIn u) = true := by kernel_rfl
        rw [Tryz.params11] at hall
        exact (show Tryz.prog.wantsStandIn t = false by simpa using List.all_eq_true.1 hall t (Array.mem_toList_iff.2 hm))⟩)
    (by kernel_rfl)
end Go.Proofs.YtbhiojedmkcfoaaGreatDoor
