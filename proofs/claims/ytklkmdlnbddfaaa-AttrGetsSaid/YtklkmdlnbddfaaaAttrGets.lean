/- What any bytes say of routes, and the verdict; what is fine may be: the law AttrGets holds of every input. No condition. -/
import Derived.Test.YtklkmdlnbddfaaaRows
import Derived.Test.YtklkmdlnbddfaaaRow
import Derived.Test.YtklkmdlnbddfaaaAttZ5
namespace Go.Proofs.Ytklkmdlnbddfaaa
set_option linter.unusedVariables false
set_option linter.unusedSimpArgs false
open Go.RowKit Go.ChangeShapes
attribute [local irreducible] HC HX HO Tri eP adr

theorem attrGets_lifted (os : Os) (started : os.Started) (H : Type) (enc : TypeId × Value → H) :
    ReturnsInHanded {} Try.checked os 4 .any (Rows.attrGetsSpec.pre6 enc Try.prog Try.f4 Rows.attrGetsRow.domain false) (Rows.attrGetsSpec.post enc Try.prog Try.f4 false true false false) := by
  refine law_lifted (C := Try.checked) [.sl (.int .u8), .bool] 4 (by kernel_rfl) started (by kernel_rfl) Try.func4
    (ChangeSpec.witness6 (enc := enc) (C := Try.checked) false ⟨#[], #[.slice none 0 0, .bool false], []⟩ 8 (by kernel_rfl) (by kernel_rfl) (by kernel_rfl) (by kernel_rfl)) rfl
    (fun ds hds => match ds, hds with | [d0, d1], _ => rfl) (by kernel_rfl) (by kernel_rfl) (by kernel_rfl) (by kernel_rfl) (by kernel_rfl) (fun l hl => ?_)
  simp only [ofAll, Tr.of] at hl
  obtain ⟨_, _, rfl, ⟨dataA, datac, data, rfl, data_n, data_c, data_m, data_w⟩, ⟨_, _, rfl, ⟨four, rfl⟩, rfl⟩⟩ := hl
  exact gets_row dataA datac data (fun x hx => by simp only [Tr.of]; exact data_w x hx) four
theorem attrGets_holds : Rows.AttrGetsSaid :=
  OpenClaim.holds_of_wide 4 Try.f4 rfl rfl rfl rfl rfl rfl rfl ⟨rfl, rfl, rfl, rfl, rfl⟩ rfl rfl rfl rfl rfl (by kernel_rfl) Try.func4 (by kernel_rfl)
    (of_decide_eq_true (by kernel_rfl)) (by unfold Func.isWrapper; first | (rw [if_pos (by decide +kernel)]; kernel_rfl) | (rw [if_neg (by decide +kernel)]; exact ⟨rfl, rfl⟩))
    (fun os started H enc _ => attrGets_lifted os started H enc)
end Go.Proofs.Ytklkmdlnbddfaaa
