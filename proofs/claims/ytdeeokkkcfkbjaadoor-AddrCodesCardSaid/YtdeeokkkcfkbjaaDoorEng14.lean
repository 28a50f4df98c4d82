/- The walk's steps, each found by itself: the text of a walk then names what is its own alone. -/
import Derived.Test.YtdeeokkkcfkbjaaDoorEng13
namespace Go.Proofs.YtdeeokkkcfkbjaaDoor
set_option linter.unusedVariables false
set_option linter.unusedSimpArgs false
open Go.RowKit

theorem rdA {m : Md} {ops : List Oper} {i : Nat} {l : List Nat} (h : rdyB m ops i l = true := by first | with_reducible exact rdy_ord | with_reducible exact rdy_quiet | exact rdy_lexL (by decide +kernel)) : rdyB m ops i l = true := h
theorem soA {m : Md} {ops : List Oper} {i : Nat} {l : List Nat} (h : soleB m ops i l = true := by first | with_reducible exact sole_ord | exact sole_lexL (by decide +kernel) | exact sole_pick (by decide +kernel)) : soleB m ops i l = true := h
theorem sqA {m : Md} {ops : List Oper} {i : Nat} {l : List Nat} (h : soleQ m ops i l = true := by first | with_reducible exact soleQ_ord | with_reducible exact soleQ_quiet | exact soleQ_lex (by decide +kernel) | exact soleQ_pick (by decide +kernel)) : soleQ m ops i l = true := h
theorem wfA {sz : Nat} {l : List (List Value)} (h : WfL sz l := by iterate 16 (try (first | exact WfL.nil | exact WfL.map | apply WfL.append | refine WfL.cons rfl rfl ?_ | assumption))) : WfL sz l := h
theorem lenA {p : Prop} (h : p := by first | rfl | assumption | omega | decide | (simp only [List.length_append, List.length_map, List.length_cons, List.length_nil]; omega) | (simp; omega) | exact (List.length_map _).symm) : p := h
theorem geA {p : Prop} (h : p := by first | decide | assumption | omega) : p := h
theorem elA {p : Prop} (h : p := by first | rfl | assumption | exact map_at (by assumption)) : p := h
theorem kill {a p : Prop} (hb : a) (h : a → False := by intro hb; first | omega | contradiction | exact Bool.noConfusion hb.2 | exact Bool.noConfusion hb.1 | exact Bool.noConfusion hb.1.2 | exact Bool.noConfusion hb.1.1 | exact Bool.noConfusion hb.2.1 | exact Bool.noConfusion hb.2.2 | exact Bool.noConfusion hb.1.1.2 | exact Bool.noConfusion hb.1.1.1) : p := (h hb).elim
theorem simB {a b : Prop} (ha : a) (h : a → b := by intro h; (try simp only [decide_eq_true_eq, decide_eq_false_iff_not, Bool.and_eq_true, Bool.or_eq_true, Bool.not_eq_true', Bool.not_eq_false', Bool.and_eq_false_iff, Bool.or_eq_false_iff] at h); exact h) : b := h ha
theorem keepsA {rw rw' : List SL} (h : Keeps rw rw' := by repeat (first | exact Keeps.nil | exact Keeps.refl | refine Keeps.cons Ent.rfl_ ?_ | refine Keeps.skip ?_)) : Keeps rw rw' := h
theorem permA {rw rw' : List SL} (h : Keeps rw rw' := by repeat (first | exact Keeps.nil | refine Keeps.pick 0 rfl rfl ?_ | refine Keeps.pick 1 rfl rfl ?_ | refine Keeps.pick 2 rfl rfl ?_ | refine Keeps.pick 3 rfl rfl ?_ | refine Keeps.pick 4 rfl rfl ?_ | refine Keeps.pick 5 rfl rfl ?_ | refine Keeps.pick 6 rfl rfl ?_ | refine Keeps.pick 7 rfl rfl ?_ | refine Keeps.pick 8 rfl rfl ?_ | refine Keeps.pick 9 rfl rfl ?_ | refine Keeps.pick 10 rfl rfl ?_ | refine Keeps.pick 11 rfl rfl ?_ | refine Keeps.pick 12 rfl rfl ?_ | refine Keeps.pick 13 rfl rfl ?_)) : Keeps rw rw' := h
theorem srcsA {src l : List SL} (h : AllSrc src l := by repeat (first | exact trivial | refine AllSrc.at_ 0 rfl ?_ | refine AllSrc.own 0 rfl rfl ?_ | refine AllSrc.at_ 1 rfl ?_ | refine AllSrc.own 1 rfl rfl ?_ | refine AllSrc.at_ 2 rfl ?_ | refine AllSrc.own 2 rfl rfl ?_ | refine AllSrc.at_ 3 rfl ?_ | refine AllSrc.own 3 rfl rfl ?_ | refine AllSrc.at_ 4 rfl ?_ | refine AllSrc.own 4 rfl rfl ?_ | refine AllSrc.at_ 5 rfl ?_ | refine AllSrc.own 5 rfl rfl ?_ | refine AllSrc.at_ 6 rfl ?_ | refine AllSrc.own 6 rfl rfl ?_ | refine AllSrc.at_ 7 rfl ?_ | refine AllSrc.own 7 rfl rfl ?_ | refine AllSrc.at_ 8 rfl ?_ | refine AllSrc.own 8 rfl rfl ?_ | refine AllSrc.at_ 9 rfl ?_ | refine AllSrc.own 9 rfl rfl ?_)) : AllSrc src l := h
theorem srcsB {src l : List SL} (h : AllSrc src l := by repeat (first | exact trivial | refine AllSrc.free (fun w => arr_nil _ w) ?_ | refine AllSrc.free inn_nil ?_ | refine AllSrc.at_ 0 rfl ?_ | refine AllSrc.own 0 rfl rfl ?_ | refine AllSrc.at_ 1 rfl ?_ | refine AllSrc.own 1 rfl rfl ?_ | refine AllSrc.at_ 2 rfl ?_ | refine AllSrc.own 2 rfl rfl ?_ | refine AllSrc.at_ 3 rfl ?_ | refine AllSrc.own 3 rfl rfl ?_ | refine AllSrc.at_ 4 rfl ?_ | refine AllSrc.own 4 rfl rfl ?_ | refine AllSrc.at_ 5 rfl ?_ | refine AllSrc.own 5 rfl rfl ?_ | refine AllSrc.at_ 6 rfl ?_ | refine AllSrc.own 6 rfl rfl ?_ | refine AllSrc.at_ 7 rfl ?_ | refine AllSrc.own 7 rfl rfl ?_ | refine AllSrc.at_ 8 rfl ?_ | refine AllSrc.own 8 rfl rfl ?_ | refine AllSrc.at_ 9 rfl ?_ | refine AllSrc.own 9 rfl rfl ?_ | refine AllSrc.at_ 10 rfl ?_ | refine AllSrc.own 10 rfl rfl ?_ | refine AllSrc.at_ 11 rfl ?_ | refine AllSrc.own 11 rfl rfl ?_ | refine AllSrc.at_ 12 rfl ?_ | refine AllSrc.own 12 rfl rfl ?_ | refine AllSrc.at_ 13 rfl ?_ | refine AllSrc.own 13 rfl rfl ?_ | refine AllSrc.at_ 14 rfl ?_ | refine AllSrc.own 14 rfl rfl ?_ | refine AllSrc.at_ 15 rfl ?_ | refine AllSrc.own 15 rfl rfl ?_ | refine AllSrc.at_ 16 rfl ?_ | refine AllSrc.own 16 rfl rfl ?_ | refine AllSrc.at_ 17 rfl ?_ | refine AllSrc.own 17 rfl rfl ?_ | refine AllSrc.at_ 18 rfl ?_ | refine AllSrc.own 18 rfl rfl ?_ | refine AllSrc.at_ 19 rfl ?_ | refine AllSrc.own 19 rfl rfl ?_ | refine AllSrc.at_ 20 rfl ?_ | refine AllSrc.own 20 rfl rfl ?_ | refine AllSrc.at_ 21 rfl ?_ | refine AllSrc.own 21 rfl rfl ?_ | refine AllSrc.at_ 22 rfl ?_ | refine AllSrc.own 22 rfl rfl ?_ | refine AllSrc.at_ 23 rfl ?_ | refine AllSrc.own 23 rfl rfl ?_ | refine AllSrc.at_ 24 rfl ?_ | refine AllSrc.own 24 rfl rfl ?_ | refine AllSrc.at_ 25 rfl ?_ | refine AllSrc.own 25 rfl rfl ?_)) : AllSrc src l := h
/-- one step -/
theorem S1 {p q : Prop} (hq : q) (h : q → p := by
  intro hq
  first
  | exact HO_doneG rfl hq
  | exact HO_doneGQ rfl hq
  | exact HO_doneGL rfl rfl (by decide +kernel) rfl rfl hq
  | (refine HO_k 0 rfl ?_; (first
      | exact HO_pure rfl rfl rfl rfl rdA hq
      | exact HO_eqb rfl rfl rfl rfl rfl rfl rdA hq
      | exact HO_eqf rfl rfl rfl rfl rfl rfl rfl rdA hq
      | exact HO_eqs rfl rfl rfl rfl rfl rfl rdA hq
      | exact HO_eqp rfl rfl rfl rfl rfl rfl rdA hq
      | (refine HO_sh rfl rfl rfl rfl ?hp rfl rfl rdA hq; (case hp => omega))))
  | (refine HO_k 5 rfl ?_; (first
      | exact HO_faddr rfl rfl rfl rfl rdA hq
      | exact HO_faddrE rfl rfl rfl rfl rdA hq))
  | (refine HO_k 2 rfl ?_; (first
      | exact HO_lo rfl rfl rfl rfl rfl rfl rfl rdA hq
      | exact HO_lor rfl rfl rfl rfl rfl rfl rdA hq
      | exact HO_loh rfl rfl rfl rfl rfl rfl rfl rdA hq
      | exact HO_ldA rfl rfl rfl wfA elA rfl rfl rfl rfl rdA hq))
  | (refine HO_k 3 rfl ?_; refine HO_lastG ?hL rfl rfl ?hr ?hr0 rfl hq; (case hL => decide +kernel); (case hr => decide +kernel); (case hr0 => decide +kernel))
  | (refine HO_k 3 rfl ?_; (first
      | exact HO_st rfl rfl rfl rfl rfl rfl rfl rfl soA hq
      | exact HO_stA rfl rfl rfl rfl rfl rfl wfA elA rfl rfl rfl rfl soA hq))
  | (refine HO_k 18 rfl ?_; exact HO_nilc rfl rfl rfl rfl rdA hq)
  | (refine HO_k 13 rfl ?_; (first
      | (refine HO_slc0 rfl rfl rfl rfl rfl ?hp rfl rfl rdA hq; (case hp => refine ⟨by first | decide | omega, by first | exact .inl rfl | exact .inr (by omega), by first | exact .inl rfl | exact .inr (by omega)⟩))
      | (refine HO_slc rfl rfl rfl rfl rfl rfl ?hp rfl rfl rdA hq; (case hp => refine ⟨by first | decide | omega, by first | assumption | omega, by first | exact .inl rfl | exact .inr (by omega), by first | exact .inl rfl | exact .inr (by omega)⟩))))
  | (refine HO_k 6 rfl ?_; exact HO_build rfl rfl rfl rfl rfl rdA hq)
  | (refine HO_k 7 rfl ?_; exact HO_conv rfl rfl rfl rfl rdA hq)
  | (refine HO_k 8 rfl ?_; (first
      | exact HO_len rfl rfl rfl rfl rfl rdA hq
      | exact HO_lens rfl rfl rfl rfl rdA hq))
  | (refine HO_k 22 rfl ?_; exact HO_min rfl rfl rfl rfl rfl rdA hq)
  | (refine HO_k 9 rfl ?_; exact HO_func rfl rfl rfl rfl rfl rdA hq)
  | (refine HO_k 19 rfl ?_; exact HO_cap rfl rfl rfl rfl rdA hq)
  | (refine HO_k 10 rfl ?_; exact HO_ixA rfl rfl rfl rfl wfA geA lenA lenA rfl rfl rdA hq)
  | (refine HO_g 2 rfl ?_; (first
      | exact HO_skip rfl rfl rfl rfl rdA hq
      | exact HO_skip0 rfl rfl rfl rdA hq))
  | (refine HO_g 1 rfl ?_; (first
      | exact HO_skip rfl rfl rfl rfl rdA hq
      | exact HO_skip0 rfl rfl rfl rdA hq))) : p := h hq
/-- a step that lays a block -/
theorem S2 {p q : Prop} (hq : q) (h : q → p := by
  intro hq
  first
  | (refine HO_k 1 rfl ?_; (first
      | exact HO_box1 rfl rfl rfl rfl rfl soA hq
      | exact HO_boxn rfl rfl rfl rfl soA hq))
  | (refine HO_k 4 rfl ?_; (first
      | exact HO_alloc1 rfl rfl rfl rfl soA hq
      | exact HO_allocn rfl rfl rfl soA hq))
  | (refine HO_k 14 rfl ?_; refine HO_mks rfl rfl rfl rfl ?h1 ?h2 ?h3 rfl rfl soA hq; (case h1 => omega); (case h2 => omega); (case h3 => omega))
  | (refine HO_k 15 rfl ?_; exact HO_bslice rfl rfl rfl rfl rfl rfl rfl rfl rfl soA hq)) : p := h hq
/-- an append -/
theorem S3 {p q : Prop} (hq : q) (h : q → p := by
  intro hq
  refine HO_k 11 rfl ?_
  first
  | exact HO_appw rfl rfl rfl rfl rfl rfl rfl rfl lenA wfA rfl rfl lenA lenA rfl rfl rfl soA hq
  | exact HO_appr rfl rfl rfl rfl rfl rfl rfl rfl lenA wfA rfl rfl lenA lenA rfl rfl rfl soA hq
  | (refine HO_addnil rfl rfl rfl ?_; (first
      | exact HO_appw rfl rfl rfl rfl rfl rfl rfl rfl lenA wfA rfl rfl lenA lenA rfl rfl rfl soA hq
      | exact HO_appr rfl rfl rfl rfl rfl rfl rfl rfl lenA wfA rfl rfl lenA lenA rfl rfl rfl soA hq))) : p := h hq
theorem S4 {p q : Prop} (hq : q) (h : q → p := by
  intro hq
  refine HO_k 11 rfl ?_
  refine HO_appz rfl rfl rfl rfl ?h1 ?h2 ?h3 rfl rfl soA hq; (case h1 => omega); (case h2 => omega); (case h3 => omega)) : p := h hq
/-- a step of the code's form -/
theorem S5 {p q : Prop} (hq : q) (h : q → p := by
  intro hq
  first
  | exact HX_then hq
  | exact HC_seq rfl hq
  | exact HC_ord rfl rfl rfl rfl hq
  | (refine HC_quiet rfl ?_; exact HC_draw rfl rfl rfl rfl rfl (by kernel_rfl) hq)
  | exact HC_lex rfl rfl (by decide +kernel) rfl rfl hq
  | exact HC_block rfl hq
  | exact HC_scope rfl hq
  | exact HC_skip rfl hq
  | exact HC_label rfl hq
  | exact HC_exit rfl hq
  | exact HC_ret rfl hq
  | exact HC_condT rfl rfl hq
  | exact HC_condF rfl rfl hq
  | exact HX_block_normal hq
  | exact HX_block_ret hq
  | exact HX_then_ret hq
  | exact HX_then_exit hq
  | exact HX_block_hit rfl hq
  | exact HX_block_miss rfl hq
  | exact HX_scope_normal hq
  | exact HX_scope_ret hq
  | exact HX_scope_exit hq) : p := h hq
theorem SR {p q : Prop} (hq : q) (h : q → p := by
  intro hq
  first
  | exact HR_then hq
  | exact HR_seq rfl hq
  | exact HR_block rfl hq
  | exact HR_ord rfl rfl rfl rfl rfl hq
  | exact HR_lex rfl rfl (by decide +kernel) rfl rfl rfl hq) : p := h hq
/-- a wrap that does nothing -/
theorem SW {p q : Prop} (hq : q) (h : q → p := by
  intro hq
  first
  | (with_reducible refine HO_i64 ?hp hq; (case hp => omega))
  | (with_reducible refine HO_u32 ?hp hq; (case hp => omega))
  | (with_reducible refine HO_u8 ?hp hq; (case hp => omega))) : p := h hq
/-- a test that is decided -/
theorem SD {p q : Prop} (hq : q) (h : q → p := by
  intro hq
  first
  | (with_reducible refine HO_dt ?hp hq; (case hp => first | rfl | decide | assumption | omega))
  | (with_reducible refine HO_df ?hp hq; (case hp => first | decide | assumption | omega))
  | (with_reducible refine HO_ndt ?hp hq; (case hp => first | rfl | decide | assumption | omega))
  | (with_reducible refine HO_ndf ?hp hq; (case hp => first | decide | assumption | omega))) : p := h hq
end Go.Proofs.YtdeeokkkcfkbjaaDoor
