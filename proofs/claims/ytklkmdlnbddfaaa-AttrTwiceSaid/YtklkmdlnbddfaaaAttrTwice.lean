/- Of attributes that are there twice the first ones count; what is of another, optional type is passed over: the law AttrTwice holds of every input. No condition. -/
import Derived.Test.YtklkmdlnbddfaaaRows
import Derived.Test.YtklkmdlnbddfaaaRow
import Derived.Test.YtklkmdlnbddfaaaAttZ4
namespace Go.Proofs.Ytklkmdlnbddfaaa
set_option linter.unusedVariables false
set_option linter.unusedSimpArgs false
open Go.RowKit Go.ChangeShapes
attribute [local irreducible] HC HX HO Tri eP adr

theorem attrTwice_lifted (os : Os) (started : os.Started) (H : Type) (enc : TypeId × Value → H) :
    ReturnsInHanded {} Try.checked os 6 .any (Rows.attrTwiceSpec.pre6 enc Try.prog Try.f6 Rows.attrTwiceRow.domain false) (Rows.attrTwiceSpec.post enc Try.prog Try.f6 false true false false) := by
  refine law_lifted (C := Try.checked) [.agg [.int .i64, .sl (.agg [.bool, .sl (.int .i64)]), .int .u32, .int .i64, .int .i64, .sl (.int .i64)], .agg [.int .i64, .sl (.agg [.bool, .sl (.int .i64)]), .int .u32, .int .i64, .int .i64, .sl (.int .i64)], .int .i64, .sl (.int .u8), .bool] 4 (by kernel_rfl) started (by kernel_rfl) Try.func6
    (ChangeSpec.witness6 (enc := enc) (C := Try.checked) false ⟨#[], #[.agg #[.int .i64 0, .slice none 0 0, .int .u32 0, .int .i64 0, .int .i64 0, .slice none 0 0], .agg #[.int .i64 0, .slice none 0 0, .int .u32 0, .int .i64 0, .int .i64 0, .slice none 0 0], .int .i64 0, .slice none 0 0, .bool false], []⟩ 8 (by kernel_rfl) (by kernel_rfl) (by kernel_rfl) (by kernel_rfl)) rfl
    (fun ds hds => match ds, hds with | [d0, d1, d2, d3, d4], _ => rfl) (by kernel_rfl) (by kernel_rfl) (by kernel_rfl) (by kernel_rfl) (by kernel_rfl) (fun l hl => ?_)
  simp only [ofAll, Tr.of] at hl
  obtain ⟨_, _, rfl, ⟨_, rfl, ⟨_, _, rfl, ⟨org, rfl, w_org⟩, ⟨_, _, rfl, ⟨pathA, pathc, path, rfl, path_n, path_c, path_m, path_w⟩, ⟨_, _, rfl, ⟨nxt, rfl, w_nxt⟩, ⟨_, _, rfl, ⟨med, rfl, w_med⟩, ⟨_, _, rfl, ⟨pref, rfl, w_pref⟩, ⟨_, _, rfl, ⟨commsA, commsc, comms, rfl, comms_n, comms_c, comms_m, comms_w⟩, rfl⟩⟩⟩⟩⟩⟩⟩, ⟨_, _, rfl, ⟨_, rfl, ⟨_, _, rfl, ⟨orgq, rfl, w_orgq⟩, ⟨_, _, rfl, ⟨pathqA, pathqc, pathq, rfl, pathq_n, pathq_c, pathq_m, pathq_w⟩, ⟨_, _, rfl, ⟨nxtq, rfl, w_nxtq⟩, ⟨_, _, rfl, ⟨medq, rfl, w_medq⟩, ⟨_, _, rfl, ⟨prefq, rfl, w_prefq⟩, ⟨_, _, rfl, ⟨commsqA, commsqc, commsq, rfl, commsq_n, commsq_c, commsq_m, commsq_w⟩, rfl⟩⟩⟩⟩⟩⟩⟩, ⟨_, _, rfl, ⟨kind, rfl, w_kind⟩, ⟨_, _, rfl, ⟨dataA, datac, data, rfl, data_n, data_c, data_m, data_w⟩, ⟨_, _, rfl, ⟨four, rfl⟩, rfl⟩⟩⟩⟩⟩ := hl
  exact twice_row org pathA pathc path nxt med pref commsA commsc comms (fun x hx => by simp only [segShp, Tr.of, ofAll]; exact path_w x hx) (fun x hx => by simp only [Tr.of]; exact comms_w x hx) (wf_u32 w_nxt) orgq pathqA pathqc pathq nxtq medq prefq commsqA commsqc commsq (fun x hx => by simp only [segShp, Tr.of, ofAll]; exact pathq_w x hx) (fun x hx => by simp only [Tr.of]; exact commsq_w x hx) (wf_u32 w_nxtq) kind dataA datac data (fun x hx => by simp only [Tr.of]; exact data_w x hx) four
theorem attrTwice_holds : Rows.AttrTwiceSaid :=
  OpenClaim.holds_of_wide 6 Try.f6 rfl rfl rfl rfl rfl rfl rfl ⟨rfl, rfl, rfl, rfl, rfl⟩ rfl rfl rfl rfl rfl (by kernel_rfl) Try.func6 (by kernel_rfl)
    (of_decide_eq_true (by kernel_rfl)) (by unfold Func.isWrapper; first | (rw [if_pos (by decide +kernel)]; kernel_rfl) | (rw [if_neg (by decide +kernel)]; exact ⟨rfl, rfl⟩))
    (fun os started H enc _ => attrTwice_lifted os started H enc)
end Go.Proofs.Ytklkmdlnbddfaaa
