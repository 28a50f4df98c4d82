/- As many records as are in bytes; a dump has one, and one for each prefix: the law MrtRecords holds of every input. No condition. -/
import Derived.Test.YtklkmdlnbddfaaaRows
import Derived.Test.YtklkmdlnbddfaaaRow
import Derived.Test.YtklkmdlnbddfaaaMrtZZ
namespace Go.Proofs.Ytklkmdlnbddfaaa
set_option linter.unusedVariables false
set_option linter.unusedSimpArgs false
open Go.RowKit Go.ChangeShapes
attribute [local irreducible] HC HX HO Tri eP adr

theorem mrtRecords_lifted (os : Os) (started : os.Started) (H : Type) (enc : TypeId × Value → H) :
    ReturnsInHanded {} Try.checked os 12 .any (Rows.mrtRecordsSpec.pre6 enc Try.prog Try.f12 Rows.mrtRecordsRow.domain false) (Rows.mrtRecordsSpec.post enc Try.prog Try.f12 false true false false) := by
  refine law_lifted (C := Try.checked) [.sl (.int .u8), .agg [.int .i64, .int .u32, .sl (.agg [.int .u32, .int .u32, .int .i64]), .sl (.agg [.agg [.int .i64, .agg [.int .u32, .int .i64], .int .i64], .agg [.int .i64, .sl (.agg [.bool, .sl (.int .i64)]), .int .u32, .int .i64, .int .i64, .sl (.int .i64)]])]] 4 (by kernel_rfl) started (by kernel_rfl) Try.func12
    (ChangeSpec.witness6 (enc := enc) (C := Try.checked) false ⟨#[], #[.slice none 0 0, .agg #[.int .i64 0, .int .u32 0, .slice none 0 0, .slice none 0 0]], []⟩ 8 (by kernel_rfl) (by kernel_rfl) (by kernel_rfl) (by kernel_rfl)) rfl
    (fun ds hds => match ds, hds with | [d0, d1], _ => rfl) (by kernel_rfl) (by kernel_rfl) (by kernel_rfl) (by kernel_rfl) (by kernel_rfl) (fun l hl => ?_)
  simp only [ofAll, Tr.of] at hl
  obtain ⟨_, _, rfl, ⟨dataA, datac, data, rfl, data_n, data_c, data_m, data_w⟩, ⟨_, _, rfl, ⟨_, rfl, ⟨_, _, rfl, ⟨t, rfl, w_t⟩, ⟨_, _, rfl, ⟨id, rfl, w_id⟩, ⟨_, _, rfl, ⟨peersA, peersc, peers, rfl, peers_n, peers_c, peers_m, peers_w⟩, ⟨_, _, rfl, ⟨routesA, routesc, routes, rfl, routes_n, routes_c, routes_m, routes_w⟩, rfl⟩⟩⟩⟩⟩, rfl⟩⟩ := hl
  exact mrec_row dataA datac data data_c (fun x hx => by simp only [Tr.of]; exact data_w x hx) t id (wf_u32 w_id) peersA peersc peers routesA routesc routes (fun x hx => by simp only [peShp, Tr.of, ofAll]; exact peers_w x hx) (fun x hx => by simp only [rtShp, attShp, segShp, Tr.of, ofAll]; exact routes_w x hx) routes_c
theorem mrtRecords_holds : Rows.MrtRecordsSaid :=
  OpenClaim.holds_of_wide 12 Try.f12 rfl rfl rfl rfl rfl rfl rfl ⟨rfl, rfl, rfl, rfl, rfl⟩ rfl rfl rfl rfl rfl (by kernel_rfl) Try.func12 (by kernel_rfl)
    (of_decide_eq_true (by kernel_rfl)) (by unfold Func.isWrapper; first | (rw [if_pos (by decide +kernel)]; kernel_rfl) | (rw [if_neg (by decide +kernel)]; exact ⟨rfl, rfl⟩))
    (fun os started H enc _ => mrtRecords_lifted os started H enc)
end Go.Proofs.Ytklkmdlnbddfaaa
