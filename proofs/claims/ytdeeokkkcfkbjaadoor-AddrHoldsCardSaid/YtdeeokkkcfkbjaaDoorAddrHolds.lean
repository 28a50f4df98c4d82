/- The prefix of any length that holds an address may be; its halves hold it by the next bit: the law AddrHolds holds of every input, at the library's tables as its text lays them. No condition. -/
import Derived.Test.YtdeeokkkcfkbjaaDoorRows
import Derived.Test.YtdeeokkkcfkbjaaDoorCards
import Derived.Test.YtdeeokkkcfkbjaaDoorTie
import Derived.Test.YtdeeokkkcfkbjaaDoorAdR
import Derived.Test.YtdeeokkkcfkbjaaDoorAdN
import Derived.ProofKit
import Derived.SevenTiedAt
import Derived.Stop.Joined
namespace Go.Proofs.YtdeeokkkcfkbjaaDoor
set_option linter.unusedVariables false
set_option linter.unusedSimpArgs false
open Go.RowKit Go.ChangeShapes
attribute [local irreducible] HC HX HO Tri eP adr

set_option maxRecDepth 100000 in
theorem addrHolds_lifted (os : Os) (started : os.Started) (H : Type) (enc : TypeId × Value → H) :
    ReturnsInHanded {} Tryd.checked os 9 .any (fun w args => (Rows.addrHoldsSpec.pre enc Tryd.prog Tryd.f9 [] false w args ∧ laidMetH Tryd.prog adLaid w) ∧ sizedMet enc Tryd.prog Tryd.f9 (OpenSpec.ofChange Rows.addrHoldsSpec) false w args)
      (Rows.addrHoldsSpec.post enc Tryd.prog Tryd.f9 false true false false) := by
  refine law_laid (C := Tryd.checked) [.int .u32, .int .i64] 4 (fun w => laidMetH Tryd.prog adLaid w) ad_of_heap (by kernel_rfl) started (by kernel_rfl) Tryd.func9
    (ChangeSpec.witness_shaped (enc := enc) (C := Tryd.checked) (os := os) (X := fun w _ => laidMetH Tryd.prog adLaid w) false (World.laidAll Tryd.prog os adLaid) #[.int .u32 0, .int .i64 0] 8 (World.laidAll_os _ _ _)
      (World.shaped_of_ZipB (by kernel_rfl) (by kernel_rfl)) (by kernel_rfl) (by kernel_rfl) (by kernel_rfl) (ad_world os _)) rfl
    (fun ds hds => match ds, hds with | [d0, d1], _ => rfl) (by kernel_rfl) (by kernel_rfl) (by kernel_rfl) (by kernel_rfl) (by kernel_rfl) (fun m => [tab1, maxLen0 m]) pieces_laid (fun m l hl => ?_)
  simp only [ofAll, Tr.of] at hl
  obtain ⟨_, _, rfl, ⟨a, rfl, w_a⟩, ⟨_, _, rfl, ⟨n, rfl, w_n⟩, rfl⟩⟩ := hl
  obtain ⟨a, rfl⟩ : ∃ k : Nat, a = k := ⟨a.toNat, by have := wf_u32 w_a; omega⟩
  have h_a : a < 4294967296 := by have := wf_u32 w_a; omega
  exact lawHolds m a h_a n
theorem addrHolds_row : Rows.AddrHoldsSaid :=
  OpenClaim.holds_of_wide 9 Tryd.f9 rfl rfl rfl rfl rfl rfl rfl ⟨rfl, rfl, rfl, rfl, rfl⟩ rfl rfl rfl rfl rfl (by kernel_rfl) Tryd.func9 (by kernel_rfl)
    (of_decide_eq_true (by kernel_rfl)) (by unfold Func.isWrapper; first | (rw [if_pos (by decide +kernel)]; kernel_rfl) | (rw [if_neg (by decide +kernel)]; exact ⟨rfl, rfl⟩))
    (fun os started H enc _ => addrHolds_lifted os started H enc)
theorem addrHolds_holds : Rows.AddrHoldsCardSaid :=
  Claim7.holds_tied_plain_at .later [] [.data, .data, .data, .data, .pinned] true (true, "89c650f797d5310daedcca2ae1c8995d28d225df520928725c73746c5b60cf33") false
    addrHolds_row (fun _ h => by cases h) (by kernel_rfl) (fun _ h => by cases h) addrHolds_row_tie rfl ⟨rfl, rfl⟩ (by kernel_rfl) rfl
    (fun f fn hf hfn => by
      obtain rfl : f = 9 := Option.some.inj ((show Tryd.prog.funcNamed "bypath/bypathlaw02.AddrHolds" = some 9 by kernel_rfl).symm.trans hf) |>.symm
      obtain rfl : fn = Tryd.f9 := (Option.some.inj (Tryd.func9.symm.trans hfn)).symm
      exact ⟨by kernel_rfl, fun j t ht => by
        rw [Tryd.params9] at ht
        have hm := Array.mem_of_getElem? ht
        have hall : (Tryd.f9.params.toList.all fun u => !Tryd.prog.wantsStandIn u) = true := by kernel_rfl
        rw [Tryd.params9] at hall
        exact (show Tryd.prog.wantsStandIn t = false by simpa using List.all_eq_true.1 hall t (Array.mem_toList_iff.2 hm))⟩)
    (by kernel_rfl)
end Go.Proofs.YtdeeokkkcfkbjaaDoor
