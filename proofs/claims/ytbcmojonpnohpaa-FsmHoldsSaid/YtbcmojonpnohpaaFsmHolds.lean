/- An established session that hears nothing falls when its time is over: the law FsmHolds holds of every input. No condition. -/
import Derived.Test.YtbcmojonpnohpaaRows
import Derived.Test.YtbcmojonpnohpaaRow
import Derived.Test.YtbcmojonpnohpaaFsmI
namespace Go.Proofs.Ytbcmojonpnohpaa
set_option linter.unusedVariables false
set_option linter.unusedSimpArgs false
open Go.RowKit Go.ChangeShapes
attribute [local irreducible] HC HX HO Tri eP

theorem fsmHolds_lifted (os : Os) (started : os.Started) (H : Type) (enc : TypeId × Value → H) :
    ReturnsInHanded {} Try.checked os 4 .any (Rows.fsmHoldsSpec.pre6 enc Try.prog Try.f4 Rows.fsmHoldsRow.domain false) (Rows.fsmHoldsSpec.post enc Try.prog Try.f4 false true false false) := by
  refine law_lifted (C := Try.checked) [.agg [.agg [.int .i64, .int .i64, .int .u32, .bool, .int .i64], .int .i64], .int .i64] 4 (by kernel_rfl) started (by kernel_rfl) Try.func4
    (ChangeSpec.witness6 (enc := enc) (C := Try.checked) false ⟨#[], #[.agg #[.int .i64 0, .int .i64 0, .int .u32 0, .bool false, .int .i64 0, .int .i64 0], .int .i64 0], []⟩ 8 (by kernel_rfl) (by kernel_rfl) (by kernel_rfl) (by kernel_rfl)) rfl
    (fun ds hds => match ds, hds with | [d0, d1], _ => rfl) (by kernel_rfl) (by kernel_rfl) (by kernel_rfl) (by kernel_rfl) (by kernel_rfl) (fun l hl => ?_)
  simp only [ofAll, Tr.of] at hl
  obtain ⟨_, _, rfl, ⟨_, rfl, ⟨_, _, rfl, ⟨_, rfl, ⟨_, _, rfl, ⟨asn, rfl, w_asn⟩, ⟨_, _, rfl, ⟨hold, rfl, w_hold⟩, ⟨_, _, rfl, ⟨id, rfl, w_id⟩, ⟨_, _, rfl, ⟨four, rfl⟩, ⟨_, _, rfl, ⟨paths, rfl, w_paths⟩, rfl⟩⟩⟩⟩⟩⟩, ⟨_, _, rfl, ⟨retry, rfl, w_retry⟩, rfl⟩⟩⟩, ⟨_, _, rfl, ⟨h, rfl, w_h⟩, rfl⟩⟩ := hl
  exact holds_t ⟨asn, hold, id, four, paths, retry⟩ h (wf_u32 w_id)
theorem fsmHolds_holds : Rows.FsmHoldsSaid :=
  OpenClaim.holds_of_wide 4 Try.f4 rfl rfl rfl rfl rfl rfl rfl ⟨rfl, rfl, rfl, rfl, rfl⟩ rfl rfl rfl rfl rfl (by kernel_rfl) Try.func4 (by kernel_rfl)
    (of_decide_eq_true (by kernel_rfl)) (by unfold Func.isWrapper; first | (rw [if_pos (by decide +kernel)]; kernel_rfl) | (rw [if_neg (by decide +kernel)]; exact ⟨rfl, rfl⟩))
    (fun os started H enc _ => fsmHolds_lifted os started H enc)
end Go.Proofs.Ytbcmojonpnohpaa
