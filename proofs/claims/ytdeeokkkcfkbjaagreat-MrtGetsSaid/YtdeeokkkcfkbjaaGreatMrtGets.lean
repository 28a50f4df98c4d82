/- What any bytes are as a dump; what is got is put as these bytes: the law MrtGets holds of every input. No condition. -/
import Derived.Test.YtdeeokkkcfkbjaaGreatRows
import Derived.Test.YtdeeokkkcfkbjaaGreatRow
import Derived.Test.YtdeeokkkcfkbjaaGreatMrtRz
namespace Go.Proofs.YtdeeokkkcfkbjaaGreat
set_option linter.unusedVariables false
set_option linter.unusedSimpArgs false
open Go.RowKit Go.ChangeShapes
attribute [local irreducible] HC HX HO Tri eP adr

theorem mrtGets_lifted (os : Os) (started : os.Started) (H : Type) (enc : TypeId × Value → H) :
    ReturnsInHanded {} Tryz.checked os 4 .any (Rows.mrtGetsSpec.pre6 enc Tryz.prog Tryz.f4 Rows.mrtGetsRow.domain false) (Rows.mrtGetsSpec.post enc Tryz.prog Tryz.f4 false true false false) := by
  refine law_lifted (C := Tryz.checked) [.sl (.int .u8)] 4 (by kernel_rfl) started (by kernel_rfl) Tryz.func4
    (ChangeSpec.witness6 (enc := enc) (C := Tryz.checked) false ⟨#[], #[.slice none 0 0], []⟩ 8 (by kernel_rfl) (by kernel_rfl) (by kernel_rfl) (by kernel_rfl)) rfl
    (fun ds hds => match ds, hds with | [d0], _ => rfl) (by kernel_rfl) (by kernel_rfl) (by kernel_rfl) (by kernel_rfl) (by kernel_rfl) (fun l hl => ?_)
  simp only [ofAll, Tr.of] at hl
  obtain ⟨_, _, rfl, ⟨dataA, datac, data, rfl, data_n, data_c, data_m, data_w⟩, rfl⟩ := hl
  exact mgets_row dataA datac data (fun x hx => by simp only [Tr.of]; exact data_w x hx)
theorem mrtGets_holds : Rows.MrtGetsSaid :=
  OpenClaim.holds_of_wide 4 Tryz.f4 rfl rfl rfl rfl rfl rfl rfl ⟨rfl, rfl, rfl, rfl, rfl⟩ rfl rfl rfl rfl rfl (by kernel_rfl) Tryz.func4 (by kernel_rfl)
    (of_decide_eq_true (by kernel_rfl)) (by unfold Func.isWrapper; first | (rw [if_pos (by decide +kernel)]; kernel_rfl) | (rw [if_neg (by decide +kernel)]; exact ⟨rfl, rfl⟩))
    (fun os started H enc _ => mrtGets_lifted os started H enc)
end Go.Proofs.YtdeeokkkcfkbjaaGreat
