/- Whether any two settings are the same: the law ConfSames holds of every input, at the listed variables as the program's text lays them. No condition. -/
import Derived.Test.YtbhiojedmkcfoaaGreatDoorRows
import Derived.Test.YtbhiojedmkcfoaaGreatDoorCards
import Derived.Test.YtbhiojedmkcfoaaGreatDoorTie
import Derived.Test.YtbhiojedmkcfoaaGreatDoorCgR
import Derived.Test.YtbhiojedmkcfoaaGreatDoorCgZ
import Derived.ProofKit
import Derived.SevenTiedAt
import Derived.Stop.Joined
namespace Go.Proofs.YtbhiojedmkcfoaaGreatDoor
set_option linter.unusedVariables false
set_option linter.unusedSimpArgs false
open Go.RowKit Go.ChangeShapes
attribute [local irreducible] HC HX HO Tri eP adr

set_option maxRecDepth 100000 in
theorem confSames_lifted (os : Os) (started : os.Started) (H : Type) (enc : TypeId × Value → H) :
    ReturnsInHanded {} Tryz.checked os 5 .any (fun w args => (Rows.confSamesSpec.pre enc Tryz.prog Tryz.f5 [] false w args ∧ laidMetH Tryz.prog cfLaid w) ∧ sizedMet enc Tryz.prog Tryz.f5 (OpenSpec.ofChange Rows.confSamesSpec) false w args)
      (Rows.confSamesSpec.post enc Tryz.prog Tryz.f5 false true false false) := by
  refine law_laid (C := Tryz.checked) [.agg [.int .i64, .int .u32, .int .i64, .int .i64, .int .i64, .int .i64, .int .i64, .sl (.agg [.int .i64, .int .i64, .agg [.int .u32, .int .i64], .int .i64]), .int .i64, .int .i64, .int .i64, .int .i64, .int .i64, .int .i64, .int .i64, .int .i64, .int .i64, .sl (.int .i64), .int .i64, .int .i64], .agg [.int .i64, .int .u32, .int .i64, .int .i64, .int .i64, .int .i64, .int .i64, .sl (.agg [.int .i64, .int .i64, .agg [.int .u32, .int .i64], .int .i64]), .int .i64, .int .i64, .int .i64, .int .i64, .int .i64, .int .i64, .int .i64, .int .i64, .int .i64, .sl (.int .i64), .int .i64, .int .i64]] 4 (fun w => laidMetH Tryz.prog cfLaid w) cf_of_heap (by kernel_rfl) started (by kernel_rfl) Tryz.func5
    (ChangeSpec.witness_shaped (enc := enc) (C := Tryz.checked) (os := os) (X := fun w _ => laidMetH Tryz.prog cfLaid w) false (World.laidAll Tryz.prog os cfLaid) #[.agg #[.int .i64 0, .int .u32 0, .int .i64 0, .int .i64 0, .int .i64 0, .int .i64 0, .int .i64 0, .slice none 0 0, .int .i64 0, .int .i64 0, .int .i64 0, .int .i64 0, .int .i64 0, .int .i64 0, .int .i64 0, .int .i64 0, .int .i64 0, .slice none 0 0, .int .i64 0, .int .i64 0], .agg #[.int .i64 0, .int .u32 0, .int .i64 0, .int .i64 0, .int .i64 0, .int .i64 0, .int .i64 0, .slice none 0 0, .int .i64 0, .int .i64 0, .int .i64 0, .int .i64 0, .int .i64 0, .int .i64 0, .int .i64 0, .int .i64 0, .int .i64 0, .slice none 0 0, .int .i64 0, .int .i64 0]] 8 (World.laidAll_os _ _ _)
      (World.shaped_of_ZipB (by kernel_rfl) (by kernel_rfl)) (by kernel_rfl) (by kernel_rfl) (by kernel_rfl) (cf_world os _)) rfl
    (fun ds hds => match ds, hds with | [d0, d1], _ => rfl) (by kernel_rfl) (by kernel_rfl) (by kernel_rfl) (by kernel_rfl) (by kernel_rfl) (fun m => [tab1, glW, maxLen0 m]) pieces_laid (fun m l hl => ?_)
  simp only [ofAll, Tr.of] at hl
  obtain ⟨_, _, rfl, ⟨_, rfl, ⟨_, _, rfl, ⟨cas, rfl, w_cas⟩, ⟨_, _, rfl, ⟨cid, rfl, w_cid⟩, ⟨_, _, rfl, ⟨chold, rfl, w_chold⟩, ⟨_, _, rfl, ⟨cretry, rfl, w_cretry⟩, ⟨_, _, rfl, ⟨crouters, rfl, w_crouters⟩, ⟨_, _, rfl, ⟨ccounts, rfl, w_ccounts⟩, ⟨_, _, rfl, ⟨ccarries, rfl, w_ccarries⟩, ⟨_, _, rfl, ⟨cifsA, cifsc, cifs, rfl, cifs_n, cifs_c, cifs_m, cifs_w⟩, ⟨_, _, rfl, ⟨chigh, rfl, w_chigh⟩, ⟨_, _, rfl, ⟨clow, rfl, w_clow⟩, ⟨_, _, rfl, ⟨cmoves, rfl, w_cmoves⟩, ⟨_, _, rfl, ⟨ccycle, rfl, w_ccycle⟩, ⟨_, _, rfl, ⟨cstale, rfl, w_cstale⟩, ⟨_, _, rfl, ⟨cwarm, rfl, w_cwarm⟩, ⟨_, _, rfl, ⟨cexpire, rfl, w_cexpire⟩, ⟨_, _, rfl, ⟨cpref, rfl, w_cpref⟩, ⟨_, _, rfl, ⟨clonger, rfl, w_clonger⟩, ⟨_, _, rfl, ⟨cdenyA, cdenyc, cdeny, rfl, cdeny_n, cdeny_c, cdeny_m, cdeny_w⟩, ⟨_, _, rfl, ⟨croutes, rfl, w_croutes⟩, ⟨_, _, rfl, ⟨cqueue, rfl, w_cqueue⟩, rfl⟩⟩⟩⟩⟩⟩⟩⟩⟩⟩⟩⟩⟩⟩⟩⟩⟩⟩⟩⟩⟩, ⟨_, _, rfl, ⟨_, rfl, ⟨_, _, rfl, ⟨das, rfl, w_das⟩, ⟨_, _, rfl, ⟨did, rfl, w_did⟩, ⟨_, _, rfl, ⟨dhold, rfl, w_dhold⟩, ⟨_, _, rfl, ⟨dretry, rfl, w_dretry⟩, ⟨_, _, rfl, ⟨drouters, rfl, w_drouters⟩, ⟨_, _, rfl, ⟨dcounts, rfl, w_dcounts⟩, ⟨_, _, rfl, ⟨dcarries, rfl, w_dcarries⟩, ⟨_, _, rfl, ⟨difsA, difsc, difs, rfl, difs_n, difs_c, difs_m, difs_w⟩, ⟨_, _, rfl, ⟨dhigh, rfl, w_dhigh⟩, ⟨_, _, rfl, ⟨dlow, rfl, w_dlow⟩, ⟨_, _, rfl, ⟨dmoves, rfl, w_dmoves⟩, ⟨_, _, rfl, ⟨dcycle, rfl, w_dcycle⟩, ⟨_, _, rfl, ⟨dstale, rfl, w_dstale⟩, ⟨_, _, rfl, ⟨dwarm, rfl, w_dwarm⟩, ⟨_, _, rfl, ⟨dexpire, rfl, w_dexpire⟩, ⟨_, _, rfl, ⟨dpref, rfl, w_dpref⟩, ⟨_, _, rfl, ⟨dlonger, rfl, w_dlonger⟩, ⟨_, _, rfl, ⟨ddenyA, ddenyc, ddeny, rfl, ddeny_n, ddeny_c, ddeny_m, ddeny_w⟩, ⟨_, _, rfl, ⟨droutes, rfl, w_droutes⟩, ⟨_, _, rfl, ⟨dqueue, rfl, w_dqueue⟩, rfl⟩⟩⟩⟩⟩⟩⟩⟩⟩⟩⟩⟩⟩⟩⟩⟩⟩⟩⟩⟩⟩, rfl⟩⟩ := hl
  have cI : ∀ x ∈ cifs, Tr.of ifShp x := fun x hx => by simp only [ifShp, Tr.of, ofAll]; exact cifs_w x hx
  have cD : ∀ x ∈ cdeny, Tr.of (.int .i64) x := fun x hx => by simp only [Tr.of]; exact cdeny_w x hx
  have dI : ∀ x ∈ difs, Tr.of ifShp x := fun x hx => by simp only [ifShp, Tr.of, ofAll]; exact difs_w x hx
  have dD : ∀ x ∈ ddeny, Tr.of (.int .i64) x := fun x hx => by simp only [Tr.of]; exact ddeny_w x hx
  exact rowC2 (lawSames m) cI cD w_cid dI dD w_did
theorem confSames_closed : joinedFacts Tryz.pinned.checked.prog 5 Tryz.f5 Rows.confSamesSpec Rows.confSamesRow = true := by kernel_rfl
theorem confSames_row : Rows.ConfSamesSaid :=
  OpenClaim.holds_of_wide 5 Tryz.f5 rfl rfl rfl rfl rfl rfl rfl ⟨rfl, rfl, rfl, rfl, rfl⟩ rfl rfl rfl rfl rfl (by kernel_rfl) Tryz.func5 confSames_closed
    (of_decide_eq_true (by kernel_rfl)) (by unfold Func.isWrapper; first | (rw [if_pos (by decide +kernel)]; kernel_rfl) | (rw [if_neg (by decide +kernel)]; exact ⟨rfl, rfl⟩))
    (fun os started H enc _ => confSames_lifted os started H enc)
theorem confSames_holds : Rows.ConfSamesCardSaid :=
  Claim7.holds_tied_plain_at .later [] [.data, .data, .data, .data, .sentinel, .sentinel, .data, .pinned] true (true, "233722c866b36341adae1ffb4152d31f4a020fadcda342fdae227500de088aee") true
    confSames_row (fun _ h => by cases h) (by kernel_rfl) (fun _ h => by cases h) confSames_row_tie rfl ⟨rfl, rfl⟩ (by kernel_rfl) rfl
    (fun f fn hf hfn => by
      obtain rfl : f = 5 := Option.some.inj ((show Tryz.prog.funcNamed "bypath/bypathlaw19.ConfSames" = some 5 by kernel_rfl).symm.trans hf) |>.symm
      obtain rfl : fn = Tryz.f5 := (Option.some.inj (Tryz.func5.symm.trans hfn)).symm
      exact ⟨by kernel_rfl, fun j t ht => by
        rw [Tryz.params5] at ht
        have hm := Array.mem_of_getElem? ht
        have hall : (Tryz.f5.params.toList.all fun u => !Tryz.prog.wantsStandIn u) = true := by kernel_rfl
        rw [Tryz.params5] at hall
        exact (show Tryz.prog.wantsStandIn t = false by simpa using List.all_eq_true.1 hall t (Array.mem_toList_iff.2 hm))⟩)
    (by kernel_rfl)
end Go.Proofs.YtbhiojedmkcfoaaGreatDoor
