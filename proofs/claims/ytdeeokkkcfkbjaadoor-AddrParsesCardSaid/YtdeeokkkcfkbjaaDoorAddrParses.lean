/- What any text is as a prefix, and as an address: the law AddrParses holds of every input, at the library's tables as its text lays them. No condition. -/
import Derived.Test.YtdeeokkkcfkbjaaDoorRows
import Derived.Test.YtdeeokkkcfkbjaaDoorCards
import Derived.Test.YtdeeokkkcfkbjaaDoorTie
import Derived.Test.YtdeeokkkcfkbjaaDoorAdR
import Derived.Test.YtdeeokkkcfkbjaaDoorAdO
import Derived.ProofKit
import Derived.SevenTiedAt
import Derived.Stop.Joined
namespace Go.Proofs.YtdeeokkkcfkbjaaDoor
set_option linter.unusedVariables false
set_option linter.unusedSimpArgs false
open Go.RowKit Go.ChangeShapes
attribute [local irreducible] HC HX HO Tri eP adr

set_option maxRecDepth 100000 in
theorem addrParses_lifted (os : Os) (started : os.Started) (H : Type) (enc : TypeId × Value → H) :
    ReturnsInHanded {} Tryd.checked os 6 .any (fun w args => (Rows.addrParsesSpec.pre enc Tryd.prog Tryd.f6 [] false w args ∧ laidMetH Tryd.prog adLaid w) ∧ sizedMet enc Tryd.prog Tryd.f6 (OpenSpec.ofChange Rows.addrParsesSpec) false w args)
      (Rows.addrParsesSpec.post enc Tryd.prog Tryd.f6 false true false false) := by
  refine law_laid (C := Tryd.checked) [.str] 4 (fun w => laidMetH Tryd.prog adLaid w) ad_of_heap (by kernel_rfl) started (by kernel_rfl) Tryd.func6
    (ChangeSpec.witness_shaped (enc := enc) (C := Tryd.checked) (os := os) (X := fun w _ => laidMetH Tryd.prog adLaid w) false (World.laidAll Tryd.prog os adLaid) #[.string ⟨#[]⟩] 8 (World.laidAll_os _ _ _)
      (World.shaped_of_ZipB (by kernel_rfl) (by kernel_rfl)) (by kernel_rfl) (by kernel_rfl) (by kernel_rfl) (ad_world os _)) rfl
    (fun ds hds => match ds, hds with | [d0], _ => rfl) (by kernel_rfl) (by kernel_rfl) (by kernel_rfl) (by kernel_rfl) (by kernel_rfl) (fun m => [tab1, maxLen0 m]) pieces_laid (fun m l hl => ?_)
  simp only [ofAll, Tr.of] at hl
  obtain ⟨_, _, rfl, ⟨s, rfl, _⟩, rfl⟩ := hl
  exact (by have := lawParses m s.data.toList; rw [← ba_of s] at this; exact this)
theorem addrParses_row : Rows.AddrParsesSaid :=
  OpenClaim.holds_of_wide 6 Tryd.f6 rfl rfl rfl rfl rfl rfl rfl ⟨rfl, rfl, rfl, rfl, rfl⟩ rfl rfl rfl rfl rfl (by kernel_rfl) Tryd.func6 (by kernel_rfl)
    (of_decide_eq_true (by kernel_rfl)) (by unfold Func.isWrapper; first | (rw [if_pos (by decide +kernel)]; kernel_rfl) | (rw [if_neg (by decide +kernel)]; exact ⟨rfl, rfl⟩))
    (fun os started H enc _ => addrParses_lifted os started H enc)
theorem addrParses_holds : Rows.AddrParsesCardSaid :=
  Claim7.holds_tied_plain_at .later [] [.data, .data, .data, .data, .pinned] true (true, "89c650f797d5310daedcca2ae1c8995d28d225df520928725c73746c5b60cf33") false
    addrParses_row (fun _ h => by cases h) (by kernel_rfl) (fun _ h => by cases h) addrParses_row_tie rfl ⟨rfl, rfl⟩ (by kernel_rfl) rfl
    (fun f fn hf hfn => by
      obtain rfl : f = 6 := Option.some.inj ((show Tryd.prog.funcNamed "bypath/bypathlaw02.AddrParses" = some 6 by kernel_rfl).symm.trans hf) |>.symm
      obtain rfl : fn = Tryd.f6 := (Option.some.inj (Tryd.func6.symm.trans hfn)).symm
      exact ⟨by kernel_rfl, fun j t ht => by
        rw [Tryd.params6] at ht
        have hm := Array.mem_of_getElem? ht
        have hall : (Tryd.f6.params.toList.all fun u => !Tryd.prog.wantsStandIn u) = true := by kernel_rfl
        rw [Tryd.params6] at hall
        exact (show Tryd.prog.wantsStandIn t = false by simpa using List.all_eq_true.1 hall t (Array.mem_toList_iff.2 hm))⟩)
    (by kernel_rfl)
end Go.Proofs.YtdeeokkkcfkbjaaDoor
