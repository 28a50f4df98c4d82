/- Any prefix's bytes; what any bytes begin with: the law AddrCodes holds of every input, at the library's tables as its text lays them. No condition. -/
import Derived.Test.YtdeeokkkcfkbjaaDoorRows
import Derived.Test.YtdeeokkkcfkbjaaDoorCards
import Derived.Test.YtdeeokkkcfkbjaaDoorTie
import Derived.Test.YtdeeokkkcfkbjaaDoorAdR
import Derived.Test.YtdeeokkkcfkbjaaDoorAdZ
import Derived.ProofKit
import Derived.SevenTiedAt
import Derived.Stop.Joined
namespace Go.Proofs.YtdeeokkkcfkbjaaDoor
set_option linter.unusedVariables false
set_option linter.unusedSimpArgs false
open Go.RowKit Go.ChangeShapes
attribute [local irreducible] HC HX HO Tri eP adr

set_option maxRecDepth 100000 in
theorem addrCodes_lifted (os : Os) (started : os.Started) (H : Type) (enc : TypeId × Value → H) :
    ReturnsInHanded {} Tryd.checked os 7 .any (fun w args => (Rows.addrCodesSpec.pre enc Tryd.prog Tryd.f7 [] false w args ∧ laidMetH Tryd.prog adLaid w) ∧ sizedMet enc Tryd.prog Tryd.f7 (OpenSpec.ofChange Rows.addrCodesSpec) false w args)
      (Rows.addrCodesSpec.post enc Tryd.prog Tryd.f7 false true false false) := by
  refine law_laid (C := Tryd.checked) [.agg [.int .u32, .int .i64], .sl (.int .u8)] 4 (fun w => laidMetH Tryd.prog adLaid w) ad_of_heap (by kernel_rfl) started (by kernel_rfl) Tryd.func7
    (ChangeSpec.witness_shaped (enc := enc) (C := Tryd.checked) (os := os) (X := fun w _ => laidMetH Tryd.prog adLaid w) false (World.laidAll Tryd.prog os adLaid) #[.agg #[.int .u32 0, .int .i64 0], .slice none 0 0] 8 (World.laidAll_os _ _ _)
      (World.shaped_of_ZipB (by kernel_rfl) (by kernel_rfl)) (by kernel_rfl) (by kernel_rfl) (by kernel_rfl) (ad_world os _)) rfl
    (fun ds hds => match ds, hds with | [d0, d1], _ => rfl) (by kernel_rfl) (by kernel_rfl) (by kernel_rfl) (by kernel_rfl) (by kernel_rfl) (fun m => [tab1, maxLen0 m]) pieces_laid (fun m l hl => ?_)
  simp only [ofAll, Tr.of] at hl
  obtain ⟨_, _, rfl, ⟨_, rfl, ⟨_, _, rfl, ⟨pa, rfl, w_pa⟩, ⟨_, _, rfl, ⟨pn, rfl, w_pn⟩, rfl⟩⟩⟩, ⟨_, _, rfl, ⟨bA, bc, b, rfl, b_n, b_c, b_m, b_w⟩, rfl⟩⟩ := hl
  obtain ⟨pa, rfl⟩ : ∃ k : Nat, pa = k := ⟨pa.toNat, by have := wf_u32 w_pa; omega⟩
  have h_pa : pa < 4294967296 := by have := wf_u32 w_pa; omega
  exact codes_row m pa h_pa pn bA bc b (fun x hx => by simp only [Tr.of]; exact b_w x hx) b_c
theorem addrCodes_row : Rows.AddrCodesSaid :=
  OpenClaim.holds_of_wide 7 Tryd.f7 rfl rfl rfl rfl rfl rfl rfl ⟨rfl, rfl, rfl, rfl, rfl⟩ rfl rfl rfl rfl rfl (by kernel_rfl) Tryd.func7 (by kernel_rfl)
    (of_decide_eq_true (by kernel_rfl)) (by unfold Func.isWrapper; first | (rw [if_pos (by decide +kernel)]; kernel_rfl) | (rw [if_neg (by decide +kernel)]; exact ⟨rfl, rfl⟩))
    (fun os started H enc _ => addrCodes_lifted os started H enc)
theorem addrCodes_holds : Rows.AddrCodesCardSaid :=
  Claim7.holds_tied_plain_at .later [] [.data, .data, .data, .data, .pinned] true (true, "89c650f797d5310daedcca2ae1c8995d28d225df520928725c73746c5b60cf33") false
    addrCodes_row (fun _ h => by cases h) (by kernel_rfl) (fun _ h => by cases h) addrCodes_row_tie rfl ⟨rfl, rfl⟩ (by kernel_rfl) rfl
    (fun f fn hf hfn => by
      obtain rfl : f = 7 := Option.some.inj ((show Tryd.prog.funcNamed "bypath/bypathlaw02.AddrCodes" = some 7 by kernel_rfl).symm.trans hf) |>.symm
      obtain rfl : fn = Tryd.f7 := (Option.some.inj (Tryd.func7.symm.trans hfn)).symm
      exact ⟨by kernel_rfl, fun j t ht => by
        rw [Tryd.params7] at ht
        have hm := Array.mem_of_getElem? ht
        have hall : (Tryd.f7.params.toList.all fun u => !Tryd.prog.wantsStandIn u) = true := by kernel_rfl
        rw [Tryd.params7] at hall
        exact (show Tryd.prog.wantsStandIn t = false by simpa using List.all_eq_true.1 hall t (Array.mem_toList_iff.2 hm))⟩)
    (by kernel_rfl)
end Go.Proofs.YtdeeokkkcfkbjaaDoor
