/- It is told just when a session is established, and when it is so no more: the law FsmUps holds of every input. No condition. -/
import Derived.Test.YtbcmojonpnohpaaRows
import Derived.Test.YtbcmojonpnohpaaRow
import Derived.Test.YtbcmojonpnohpaaFsmL
namespace Go.Proofs.Ytbcmojonpnohpaa
set_option linter.unusedVariables false
set_option linter.unusedSimpArgs false
open Go.RowKit Go.ChangeShapes
attribute [local irreducible] HC HX HO Tri eP

theorem fsmUps_lifted (os : Os) (started : os.Started) (H : Type) (enc : TypeId × Value → H) :
    ReturnsInHanded {} Try.checked os 3 .any (Rows.fsmUpsSpec.pre6 enc Try.prog Try.f3 Rows.fsmUpsRow.domain false) (Rows.fsmUpsSpec.post enc Try.prog Try.f3 false true false false) := by
  refine law_lifted (C := Try.checked) [.agg [.agg [.int .i64, .int .i64, .int .u32, .bool, .int .i64], .int .i64], .sl (.agg [.int .i64, .agg [.int .i64, .int .i64, .int .u32, .bool, .int .i64], .agg [.int .i64, .int .i64, .sl (.int .u8)]])] 4 (by kernel_rfl) started (by kernel_rfl) Try.func3
    (ChangeSpec.witness6 (enc := enc) (C := Try.checked) false ⟨#[], #[.agg #[.int .i64 0, .int .i64 0, .int .u32 0, .bool false, .int .i64 0, .int .i64 0], .slice none 0 0], []⟩ 8 (by kernel_rfl) (by kernel_rfl) (by kernel_rfl) (by kernel_rfl)) rfl
    (fun ds hds => match ds, hds with | [d0, d1], _ => rfl) (by kernel_rfl) (by kernel_rfl) (by kernel_rfl) (by kernel_rfl) (by kernel_rfl) (fun l hl => ?_)
  simp only [ofAll, Tr.of] at hl
  obtain ⟨_, _, rfl, ⟨_, rfl, ⟨_, _, rfl, ⟨_, rfl, ⟨_, _, rfl, ⟨asn, rfl, w_asn⟩, ⟨_, _, rfl, ⟨hold, rfl, w_hold⟩, ⟨_, _, rfl, ⟨id, rfl, w_id⟩, ⟨_, _, rfl, ⟨four, rfl⟩, ⟨_, _, rfl, ⟨paths, rfl, w_paths⟩, rfl⟩⟩⟩⟩⟩⟩, ⟨_, _, rfl, ⟨retry, rfl, w_retry⟩, rfl⟩⟩⟩, ⟨_, _, rfl, ⟨evA, evc, ev, rfl, ev_n, ev_c, ev_m, ev_w⟩, rfl⟩⟩ := hl
  exact ups_row ⟨asn, hold, id, four, paths, retry⟩ evA evc ev (Nat.le_trans ev_c ev_m) (fun x hx => by simp only [evShp, Tr.of, ofAll]; exact ev_w x hx)
theorem fsmUps_holds : Rows.FsmUpsSaid :=
  OpenClaim.holds_of_wide 3 Try.f3 rfl rfl rfl rfl rfl rfl rfl ⟨rfl, rfl, rfl, rfl, rfl⟩ rfl rfl rfl rfl rfl (by kernel_rfl) Try.func3 (by kernel_rfl)
    (of_decide_eq_true (by kernel_rfl)) (by unfold Func.isWrapper; first | (rw [if_pos (by decide +kernel)]; kernel_rfl) | (rw [if_neg (by decide +kernel)]; exact ⟨rfl, rfl⟩))
    (fun os started H enc _ => fsmUps_lifted os started H enc)
end Go.Proofs.Ytbcmojonpnohpaa
