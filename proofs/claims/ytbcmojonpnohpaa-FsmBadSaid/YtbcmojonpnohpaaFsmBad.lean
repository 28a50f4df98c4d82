/- From PhaseSent on a session falls with the note that is told: the law FsmBad holds of every input. No condition. -/
import Derived.Test.YtbcmojonpnohpaaRows
import Derived.Test.YtbcmojonpnohpaaRow
import Derived.Test.YtbcmojonpnohpaaFsmH
namespace Go.Proofs.Ytbcmojonpnohpaa
set_option linter.unusedVariables false
set_option linter.unusedSimpArgs false
open Go.RowKit Go.ChangeShapes
attribute [local irreducible] HC HX HO Tri eP

theorem fsmBad_lifted (os : Os) (started : os.Started) (H : Type) (enc : TypeId × Value → H) :
    ReturnsInHanded {} Try.checked os 5 .any (Rows.fsmBadSpec.pre6 enc Try.prog Try.f5 Rows.fsmBadRow.domain false) (Rows.fsmBadSpec.post enc Try.prog Try.f5 false true false false) := by
  refine law_lifted (C := Try.checked) [.agg [.agg [.int .i64, .int .i64, .int .u32, .bool, .int .i64], .int .i64], .agg [.int .i64, .int .i64, .bool, .bool, .int .u32], .int .i64, .int .i64] 4 (by kernel_rfl) started (by kernel_rfl) Try.func5
    (ChangeSpec.witness6 (enc := enc) (C := Try.checked) false ⟨#[], #[.agg #[.int .i64 0, .int .i64 0, .int .u32 0, .bool false, .int .i64 0, .int .i64 0], .agg #[.int .i64 0, .int .i64 0, .bool false, .bool false, .int .u32 0], .int .i64 0, .int .i64 0], []⟩ 8 (by kernel_rfl) (by kernel_rfl) (by kernel_rfl) (by kernel_rfl)) rfl
    (fun ds hds => match ds, hds with | [d0, d1, d2, d3], _ => rfl) (by kernel_rfl) (by kernel_rfl) (by kernel_rfl) (by kernel_rfl) (by kernel_rfl) (fun l hl => ?_)
  simp only [ofAll, Tr.of] at hl
  obtain ⟨_, _, rfl, ⟨_, rfl, ⟨_, _, rfl, ⟨_, rfl, ⟨_, _, rfl, ⟨asn, rfl, w_asn⟩, ⟨_, _, rfl, ⟨hold, rfl, w_hold⟩, ⟨_, _, rfl, ⟨id, rfl, w_id⟩, ⟨_, _, rfl, ⟨four, rfl⟩, ⟨_, _, rfl, ⟨paths, rfl, w_paths⟩, rfl⟩⟩⟩⟩⟩⟩, ⟨_, _, rfl, ⟨retry, rfl, w_retry⟩, rfl⟩⟩⟩, ⟨_, _, rfl, ⟨_, rfl, ⟨_, _, rfl, ⟨ph, rfl, w_ph⟩, ⟨_, _, rfl, ⟨sh, rfl, w_sh⟩, ⟨_, _, rfl, ⟨sf, rfl⟩, ⟨_, _, rfl, ⟨sp, rfl⟩, ⟨_, _, rfl, ⟨si, rfl, w_si⟩, rfl⟩⟩⟩⟩⟩⟩, ⟨_, _, rfl, ⟨code, rfl, w_code⟩, ⟨_, _, rfl, ⟨sub, rfl, w_sub⟩, rfl⟩⟩⟩⟩ := hl
  exact bad_t ⟨asn, hold, id, four, paths, retry⟩ ⟨ph, sh, sf, sp, si⟩ code sub
theorem fsmBad_holds : Rows.FsmBadSaid :=
  OpenClaim.holds_of_wide 5 Try.f5 rfl rfl rfl rfl rfl rfl rfl ⟨rfl, rfl, rfl, rfl, rfl⟩ rfl rfl rfl rfl rfl (by kernel_rfl) Try.func5 (by kernel_rfl)
    (of_decide_eq_true (by kernel_rfl)) (by unfold Func.isWrapper; first | (rw [if_pos (by decide +kernel)]; kernel_rfl) | (rw [if_neg (by decide +kernel)]; exact ⟨rfl, rfl⟩))
    (fun os started H enc _ => fsmBad_lifted os started H enc)
end Go.Proofs.Ytbcmojonpnohpaa
