/- How any two prefixes stand, and whether one holds the other: the law AddrOrders holds of every input, at the library's tables as its text lays them. No condition. -/
import Derived.Test.YtdeeokkkcfkbjaaDoorRows
import Derived.Test.YtdeeokkkcfkbjaaDoorCards
import Derived.Test.YtdeeokkkcfkbjaaDoorTie
import Derived.Test.YtdeeokkkcfkbjaaDoorAdR
import Derived.Test.YtdeeokkkcfkbjaaDoorAdM
import Derived.ProofKit
import Derived.SevenTiedAt
import Derived.Stop.Joined
namespace Go.Proofs.YtdeeokkkcfkbjaaDoor
set_option linter.unusedVariables false
set_option linter.unusedSimpArgs false
open Go.RowKit Go.ChangeShapes
attribute [local irreducible] HC HX HO Tri eP adr

set_option maxRecDepth 100000 in
theorem addrOrders_lifted (os : Os) (started : os.Started) (H : Type) (enc : TypeId × Value → H) :
    ReturnsInHanded {} Tryd.checked os 4 .any (fun w args => (Rows.addrOrdersSpec.pre enc Tryd.prog Tryd.f4 [] false w args ∧ laidMetH Tryd.prog adLaid w) ∧ sizedMet enc Tryd.prog Tryd.f4 (OpenSpec.ofChange Rows.addrOrdersSpec) false w args)
      (Rows.addrOrdersSpec.post enc Tryd.prog Tryd.f4 false true false false) := by
  refine law_laid (C := Tryd.checked) [.agg [.int .u32, .int .i64], .agg [.int .u32, .int .i64]] 4 (fun w => laidMetH Tryd.prog adLaid w) ad_of_heap (by kernel_rfl) started (by kernel_rfl) Tryd.func4
    (ChangeSpec.witness_shaped (enc := enc) (C := Tryd.checked) (os := os) (X := fun w _ => laidMetH Tryd.prog adLaid w) false (World.laidAll Tryd.prog os adLaid) #[.agg #[.int .u32 0, .int .i64 0], .agg #[.int .u32 0, .int .i64 0]] 8 (World.laidAll_os _ _ _)
      (World.shaped_of_ZipB (by kernel_rfl) (by kernel_rfl)) (by kernel_rfl) (by kernel_rfl) (by kernel_rfl) (ad_world os _)) rfl
    (fun ds hds => match ds, hds with | [d0, d1], _ => rfl) (by kernel_rfl) (by kernel_rfl) (by kernel_rfl) (by kernel_rfl) (by kernel_rfl) (fun m => [tab1, maxLen0 m]) pieces_laid (fun m l hl => ?_)
  simp only [ofAll, Tr.of] at hl
  obtain ⟨_, _, rfl, ⟨_, rfl, ⟨_, _, rfl, ⟨pa, rfl, w_pa⟩, ⟨_, _, rfl, ⟨pn, rfl, w_pn⟩, rfl⟩⟩⟩, ⟨_, _, rfl, ⟨_, rfl, ⟨_, _, rfl, ⟨qa, rfl, w_qa⟩, ⟨_, _, rfl, ⟨qn, rfl, w_qn⟩, rfl⟩⟩⟩, rfl⟩⟩ := hl
  obtain ⟨pa, rfl⟩ : ∃ k : Nat, pa = k := ⟨pa.toNat, by have := wf_u32 w_pa; omega⟩
  have h_pa : pa < 4294967296 := by have := wf_u32 w_pa; omega
  obtain ⟨qa, rfl⟩ : ∃ k : Nat, qa = k := ⟨qa.toNat, by have := wf_u32 w_qa; omega⟩
  have h_qa : qa < 4294967296 := by have := wf_u32 w_qa; omega
  exact lawOrders m pa h_pa pn qa h_qa qn
theorem addrOrders_row : Rows.AddrOrdersSaid :=
  OpenClaim.holds_of_wide 4 Tryd.f4 rfl rfl rfl rfl rfl rfl rfl ⟨rfl, rfl, rfl, rfl, rfl⟩ rfl rfl rfl rfl rfl (by kernel_rfl) Tryd.func4 (by kernel_rfl)
    (of_decide_eq_true (by kernel_rfl)) (by unfold Func.isWrapper; first | (rw [if_pos (by decide +kernel)]; kernel_rfl) | (rw [if_neg (by decide +kernel)]; exact ⟨rfl, rfl⟩))
    (fun os started H enc _ => addrOrders_lifted os started H enc)
theorem addrOrders_holds : Rows.AddrOrdersCardSaid :=
  Claim7.holds_tied_plain_at .later [] [.data, .data, .data, .data, .pinned] true (true, "89c650f797d5310daedcca2ae1c8995d28d225df520928725c73746c5b60cf33") false
    addrOrders_row (fun _ h => by cases h) (by kernel_rfl) (fun _ h => by cases h) addrOrders_row_tie rfl ⟨rfl, rfl⟩ (by kernel_rfl) rfl
    (fun f fn hf hfn => by
      obtain rfl : f = 4 := Option.some.inj ((show Tryd.prog.funcNamed "bypath/bypathlaw02.AddrOrders" = some 4 by kernel_rfl).symm.trans hf) |>.symm
      obtain rfl : fn = Tryd.f4 := (Option.some.inj (Tryd.func4.symm.trans hfn)).symm
      exact ⟨by kernel_rfl, fun j t ht => by
        rw [Tryd.params4] at ht
        have hm := Array.mem_of_getElem? ht
        have hall : (Tryd.f4.params.toList.all fun u => !Tryd.prog.wantsStandIn u) = true := by kernel_rfl
        rw [Tryd.params4] at hall
        exact (show Tryd.prog.wantsStandIn t = false by simpa using List.all_eq_true.1 hall t (Array.mem_toList_iff.2 hm))⟩)
    (by kernel_rfl)
end Go.Proofs.YtdeeokkkcfkbjaaDoor
