/- Which dumps may be, and their bytes; they are got: the law MrtPuts holds of every input. No condition. -/
import Derived.Test.YtdeeokkkcfkbjaaGreatRows
import Derived.Test.YtdeeokkkcfkbjaaGreatRow
import Derived.Test.YtdeeokkkcfkbjaaGreatMrtRz
namespace Go.Proofs.YtdeeokkkcfkbjaaGreat
set_option linter.unusedVariables false
set_option linter.unusedSimpArgs false
open Go.RowKit Go.ChangeShapes
attribute [local irreducible] HC HX HO Tri eP adr

theorem mrtPuts_lifted (os : Os) (started : os.Started) (H : Type) (enc : TypeId × Value → H) :
    ReturnsInHanded {} Tryz.checked os 3 .any (Rows.mrtPutsSpec.pre6 enc Tryz.prog Tryz.f3 Rows.mrtPutsRow.domain false) (Rows.mrtPutsSpec.post enc Tryz.prog Tryz.f3 false true false false) := by
  refine law_lifted (C := Tryz.checked) [.agg [.int .i64, .int .u32, .sl (.agg [.int .u32, .int .u32, .int .i64]), .sl (.agg [.agg [.int .i64, .agg [.int .u32, .int .i64], .int .i64], .agg [.int .i64, .sl (.agg [.bool, .sl (.int .i64)]), .int .u32, .int .i64, .int .i64, .sl (.int .i64)]])]] 4 (by kernel_rfl) started (by kernel_rfl) Tryz.func3
    (ChangeSpec.witness6 (enc := enc) (C := Tryz.checked) false ⟨#[], #[.agg #[.int .i64 0, .int .u32 0, .slice none 0 0, .slice none 0 0]], []⟩ 8 (by kernel_rfl) (by kernel_rfl) (by kernel_rfl) (by kernel_rfl)) rfl
    (fun ds hds => match ds, hds with | [d0], _ => rfl) (by kernel_rfl) (by kernel_rfl) (by kernel_rfl) (by kernel_rfl) (by kernel_rfl) (fun l hl => ?_)
  simp only [ofAll, Tr.of] at hl
  obtain ⟨_, _, rfl, ⟨_, rfl, ⟨_, _, rfl, ⟨t, rfl, w_t⟩, ⟨_, _, rfl, ⟨id, rfl, w_id⟩, ⟨_, _, rfl, ⟨peersA, peersc, peers, rfl, peers_n, peers_c, peers_m, peers_w⟩, ⟨_, _, rfl, ⟨routesA, routesc, routes, rfl, routes_n, routes_c, routes_m, routes_w⟩, rfl⟩⟩⟩⟩⟩, rfl⟩ := hl
  exact mputs_row t id (wf_u32 w_id) peersA peersc peers routesA routesc routes (fun x hx => by simp only [peShp, Tr.of, ofAll]; exact peers_w x hx) (fun x hx => by simp only [rtShp, attShp, segShp, Tr.of, ofAll]; exact routes_w x hx) routes_c
theorem mrtPuts_holds : Rows.MrtPutsSaid :=
  OpenClaim.holds_of_wide 3 Tryz.f3 rfl rfl rfl rfl rfl rfl rfl ⟨rfl, rfl, rfl, rfl, rfl⟩ rfl rfl rfl rfl rfl (by kernel_rfl) Tryz.func3 (by kernel_rfl)
    (of_decide_eq_true (by kernel_rfl)) (by unfold Func.isWrapper; first | (rw [if_pos (by decide +kernel)]; kernel_rfl) | (rw [if_neg (by decide +kernel)]; exact ⟨rfl, rfl⟩))
    (fun os started H enc _ => mrtPuts_lifted os started H enc)
end Go.Proofs.YtdeeokkkcfkbjaaGreat
