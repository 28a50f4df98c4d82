/- What comes with attributes that may not be goes: the law UpdateSofts holds of every input. No condition. -/
import Derived.Test.YtklkmdlnbddfaaaRows
import Derived.Test.YtklkmdlnbddfaaaRow
import Derived.Test.YtklkmdlnbddfaaaUpdZ3
namespace Go.Proofs.Ytklkmdlnbddfaaa
set_option linter.unusedVariables false
set_option linter.unusedSimpArgs false
open Go.RowKit Go.ChangeShapes
attribute [local irreducible] HC HX HO Tri eP adr

theorem updateSofts_lifted (os : Os) (started : os.Started) (H : Type) (enc : TypeId × Value → H) :
    ReturnsInHanded {} Try.checked os 9 .any (Rows.updateSoftsSpec.pre6 enc Try.prog Try.f9 Rows.updateSoftsRow.domain false) (Rows.updateSoftsSpec.post enc Try.prog Try.f9 false true false false) := by
  refine law_lifted (C := Try.checked) [.sl (.agg [.int .i64, .agg [.int .u32, .int .i64]]), .sl (.agg [.int .i64, .agg [.int .u32, .int .i64]]), .sl (.int .u8), .bool, .bool] 4 (by kernel_rfl) started (by kernel_rfl) Try.func9
    (ChangeSpec.witness6 (enc := enc) (C := Try.checked) false ⟨#[], #[.slice none 0 0, .slice none 0 0, .slice none 0 0, .bool false, .bool false], []⟩ 8 (by kernel_rfl) (by kernel_rfl) (by kernel_rfl) (by kernel_rfl)) rfl
    (fun ds hds => match ds, hds with | [d0, d1, d2, d3, d4], _ => rfl) (by kernel_rfl) (by kernel_rfl) (by kernel_rfl) (by kernel_rfl) (by kernel_rfl) (fun l hl => ?_)
  simp only [ofAll, Tr.of] at hl
  obtain ⟨_, _, rfl, ⟨lA, lc, l, rfl, l_n, l_c, l_m, l_w⟩, ⟨_, _, rfl, ⟨mA, mc, m, rfl, m_n, m_c, m_m, m_w⟩, ⟨_, _, rfl, ⟨dataA, datac, data, rfl, data_n, data_c, data_m, data_w⟩, ⟨_, _, rfl, ⟨four, rfl⟩, ⟨_, _, rfl, ⟨paths, rfl⟩, rfl⟩⟩⟩⟩⟩ := hl
  exact usofts_row lA lc l mA mc m dataA datac data (fun x hx => by simp only [nlShp, Tr.of, ofAll]; exact l_w x hx) (fun x hx => by simp only [nlShp, Tr.of, ofAll]; exact m_w x hx) (fun x hx => by simp only [Tr.of]; exact data_w x hx) (by have := l_c; have := l_m; unfold maxLen at *; omega) (by have := m_c; have := m_m; unfold maxLen at *; omega) four paths
theorem updateSofts_holds : Rows.UpdateSoftsSaid :=
  OpenClaim.holds_of_wide 9 Try.f9 rfl rfl rfl rfl rfl rfl rfl ⟨rfl, rfl, rfl, rfl, rfl⟩ rfl rfl rfl rfl rfl (by kernel_rfl) Try.func9 (by kernel_rfl)
    (of_decide_eq_true (by kernel_rfl)) (by unfold Func.isWrapper; first | (rw [if_pos (by decide +kernel)]; kernel_rfl) | (rw [if_neg (by decide +kernel)]; exact ⟨rfl, rfl⟩))
    (fun os started H enc _ => updateSofts_lifted os started H enc)
end Go.Proofs.Ytklkmdlnbddfaaa
