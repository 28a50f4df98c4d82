/- Which updates may be put, and their bodies; they are got: the law UpdatePuts holds of every input. No condition. -/
import Derived.Test.YtklkmdlnbddfaaaRows
import Derived.Test.YtklkmdlnbddfaaaRow
import Derived.Test.YtklkmdlnbddfaaaUpdZ
namespace Go.Proofs.Ytklkmdlnbddfaaa
set_option linter.unusedVariables false
set_option linter.unusedSimpArgs false
open Go.RowKit Go.ChangeShapes
attribute [local irreducible] HC HX HO Tri eP adr

theorem updatePuts_lifted (os : Os) (started : os.Started) (H : Type) (enc : TypeId × Value → H) :
    ReturnsInHanded {} Try.checked os 8 .any (Rows.updatePutsSpec.pre6 enc Try.prog Try.f8 Rows.updatePutsRow.domain false) (Rows.updatePutsSpec.post enc Try.prog Try.f8 false true false false) := by
  refine law_lifted (C := Try.checked) [.agg [.sl (.agg [.int .i64, .agg [.int .u32, .int .i64]]), .sl (.agg [.int .i64, .agg [.int .u32, .int .i64]]), .agg [.int .i64, .sl (.agg [.bool, .sl (.int .i64)]), .int .u32, .int .i64, .int .i64, .sl (.int .i64)], .bool], .bool, .bool] 4 (by kernel_rfl) started (by kernel_rfl) Try.func8
    (ChangeSpec.witness6 (enc := enc) (C := Try.checked) false ⟨#[], #[.agg #[.slice none 0 0, .slice none 0 0, .int .i64 0, .slice none 0 0, .int .u32 0, .int .i64 0, .int .i64 0, .slice none 0 0, .bool false], .bool false, .bool false], []⟩ 8 (by kernel_rfl) (by kernel_rfl) (by kernel_rfl) (by kernel_rfl)) rfl
    (fun ds hds => match ds, hds with | [d0, d1, d2], _ => rfl) (by kernel_rfl) (by kernel_rfl) (by kernel_rfl) (by kernel_rfl) (by kernel_rfl) (fun l hl => ?_)
  simp only [ofAll, Tr.of] at hl
  obtain ⟨_, _, rfl, ⟨_, rfl, ⟨_, _, rfl, ⟨goneA, gonec, gone, rfl, gone_n, gone_c, gone_m, gone_w⟩, ⟨_, _, rfl, ⟨routesA, routesc, routes, rfl, routes_n, routes_c, routes_m, routes_w⟩, ⟨_, _, rfl, ⟨_, rfl, ⟨_, _, rfl, ⟨org, rfl, w_org⟩, ⟨_, _, rfl, ⟨pathA, pathc, path, rfl, path_n, path_c, path_m, path_w⟩, ⟨_, _, rfl, ⟨nxt, rfl, w_nxt⟩, ⟨_, _, rfl, ⟨med, rfl, w_med⟩, ⟨_, _, rfl, ⟨pref, rfl, w_pref⟩, ⟨_, _, rfl, ⟨commsA, commsc, comms, rfl, comms_n, comms_c, comms_m, comms_w⟩, rfl⟩⟩⟩⟩⟩⟩⟩, ⟨_, _, rfl, ⟨soft, rfl⟩, rfl⟩⟩⟩⟩⟩, ⟨_, _, rfl, ⟨four, rfl⟩, ⟨_, _, rfl, ⟨paths, rfl⟩, rfl⟩⟩⟩ := hl
  exact uputs_row goneA gonec gone routesA routesc routes org pathA pathc path nxt med pref commsA commsc comms soft (fun x hx => by simp only [nlShp, Tr.of, ofAll]; exact gone_w x hx) (fun x hx => by simp only [nlShp, Tr.of, ofAll]; exact routes_w x hx) (fun x hx => by simp only [segShp, Tr.of, ofAll]; exact path_w x hx) (fun x hx => by simp only [Tr.of]; exact comms_w x hx) (wf_u32 w_nxt) four paths
theorem updatePuts_holds : Rows.UpdatePutsSaid :=
  OpenClaim.holds_of_wide 8 Try.f8 rfl rfl rfl rfl rfl rfl rfl ⟨rfl, rfl, rfl, rfl, rfl⟩ rfl rfl rfl rfl rfl (by kernel_rfl) Try.func8 (by kernel_rfl)
    (of_decide_eq_true (by kernel_rfl)) (by unfold Func.isWrapper; first | (rw [if_pos (by decide +kernel)]; kernel_rfl) | (rw [if_neg (by decide +kernel)]; exact ⟨rfl, rfl⟩))
    (fun os started H enc _ => updatePuts_lifted os started H enc)
end Go.Proofs.Ytklkmdlnbddfaaa
