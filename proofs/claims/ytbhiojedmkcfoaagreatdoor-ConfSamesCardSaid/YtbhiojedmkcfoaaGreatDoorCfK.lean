/- Whether settings may be: conf.Check and the reference's. -/
import Derived.Test.YtbhiojedmkcfoaaGreatDoorCfJ
namespace Go.Proofs.YtbhiojedmkcfoaaGreatDoor
set_option linter.unusedVariables false
set_option linter.unusedSimpArgs false
open Go.RowKit
attribute [local irreducible] HC HX HO Tri eP adr

@[reducible] def TCf : Nat := 26
@[reducible] def CfS.ro (c : CfS) : List SL := [arr IfQ.e 5 c.iA c.q.ifs, arr iE 1 c.dA c.q.deny]
/-- what is asked of settings in memory -/
def CfL (c : CfS) : Prop := c.q.ifs.length ≤ 100000 ∧ c.q.deny.length ≤ 100000 ∧ c.q.id < 4294967296 ∧ ∀ x ∈ c.q.ifs, x.a < 4294967296
theorem far_t (b : Nat) (c : CfS) (x : IfQ) : Tri Tryz.prog 66 [.agg x.e.toArray, pt b] [cel b TCf c.e] [] (fun _ : Unit => True) (fun _ => .bool (decide (num c.q 4 ≤ x.router))) (fun _ => []) := by
  refine Tri_of (N := Tryz.f66.ntmps) (c := bodyOf Tryz.f66) Tryz.func66 rfl rfl rfl rfl (fun w0 S0 => ?_)
  dsimp only [IfQ.e, CfS.e, pt]
  repeat' (first | refine SW ?_ | exact HO_seg rfl rfl | refine S1 ?_ | (refine S2 ?_; intro _) | (refine S3 ?_; intro _ _) | (refine S4 ?_; intro _ _ _) | (refine HO_g 2 rfl ?_; (first | apply HO_and rfl rfl rfl rfl rfl rfl rfl rfl rfl | apply HO_or rfl rfl rfl rfl rfl rfl rfl rfl rfl)) | refine S5 ?_ | (intro hb; try replace hb := simB hb; try exact kill hb))
  ((first | apply HX_ret | apply HX_retn); (repeat (first | exact Res_nil | apply Res_tmp rfl | apply Res_ce rfl rfl rfl)); unfold RetQ; refine ⟨(), trivial, ?_, Keeps.nil⟩)
  rfl
theorem oddn_t (n : Int) : Tri Tryz.prog 67 [.int .i64 n] [] [] (fun _ : Unit => True) (fun _ => .bool (!within n 0 4294967295)) (fun _ => []) := by
  have hin := cwithin_t n 0 4294967295
  refine Tri_of (N := Tryz.f67.ntmps) (c := bodyOf Tryz.f67) Tryz.func67 rfl rfl rfl rfl (fun w0 S0 => ?_)
  repeat' (first | refine SW ?_ | (refine HO_k 12 rfl ?_; refine HO_callq rfl rfl rfl rfl (hin) (fun _ _ => rfl) (trivial) rfl rfl sqA ?_) | exact HO_seg rfl rfl | refine S1 ?_ | (refine S2 ?_; intro _) | (refine S3 ?_; intro _ _) | (refine S4 ?_; intro _ _ _) | (refine HO_g 2 rfl ?_; (first | apply HO_and rfl rfl rfl rfl rfl rfl rfl rfl rfl | apply HO_or rfl rfl rfl rfl rfl rfl rfl rfl rfl)) | refine S5 ?_ | (intro hb; try replace hb := simB hb; try exact kill hb))
  ((first | apply HX_ret | apply HX_retn); (repeat (first | exact Res_nil | apply Res_tmp rfl | apply Res_ce rfl rfl rfl)); unfold RetQ; refine ⟨(), trivial, ?_, Keeps.nil⟩)
  rfl
def denyOk (l : List Int) : Bool := decide (l.length ≤ 16) && l.all (fun n => within n 0 4294967295)
def farOk (q : CfQ) : Bool := q.ifs.all (fun x => decide (x.router < num q 4))
theorem cf_e (q : CfQ) : cfOk q = ((locOk (num q 0) (num q 2) q.id (num q 3) && timesB q && boundsB q) && (ifsOk q.ifs && farOk q) && denyOk q.deny) := by
  unfold cfOk boundsB timesB farOk denyOk
  simp only [Bool.and_assoc]
theorem far_any (q : CfQ) : q.ifs.any (fun x => decide (num q 4 ≤ x.router)) = !farOk q := by
  unfold farOk
  induction q.ifs with
  | nil => rfl
  | cons x l ih =>
    simp only [List.any_cons, List.all_cons, ih, Bool.not_and]
    congr 1
    by_cases h : x.router < num q 4
    · rw [decide_eq_true h, decide_eq_false (by omega)]; rfl
    · rw [decide_eq_false h, decide_eq_true (by omega)]; rfl
theorem deny_any (l : List Int) : (decide ((16 : Int) < l.length) || l.any (fun n => !within n 0 4294967295)) = !denyOk l := by
  unfold denyOk
  have h1 : l.any (fun n => !within n 0 4294967295) = !l.all (fun n => within n 0 4294967295) := by
    induction l with
    | nil => rfl
    | cons x l ih => simp only [List.any_cons, List.all_cons, ih, Bool.not_and]
  rw [h1]
  by_cases h : l.length ≤ 16
  · rw [decide_eq_true h, decide_eq_false (by omega)]; simp
  · rw [decide_eq_false h, decide_eq_true (by omega)]; simp
theorem loc_code (sa hold : Int) (id : Nat) (retry : Int) : (!decide ((if opnOk sa hold id = true then (if within retry 1 65535 = true then (0 : Int) else 1) else 40) = 0)) = !locOk sa hold id retry := by
  rw [loc_eq]
  cases opnOk sa hold id <;> cases within retry 1 65535 <;> rfl
theorem ifs_code (l : List IfQ) : (!decide ((if ifsOk l = true then (0 : Int) else 160) = 0)) = !ifsOk l := by cases ifsOk l <;> rfl
theorem bad3 {a b c : Bool} {r s : Bool} (h : (!a || !b || !c) = true) : (if (a && b && c && r && s) = true then (0 : Int) else 190) = 190 := by
  cases a <;> cases b <;> cases c <;> first | rfl | exact absurd h (by decide)
theorem good3 {a b c : Bool} (h : (!a || !b || !c) = false) : (a && b && c) = true := by cases a <;> cases b <;> cases c <;> first | rfl | exact absurd h (by decide)
theorem bad2 {a b : Bool} {s : Bool} (h : (!a || !b) = true) : (if (true && (a && b) && s) = true then (0 : Int) else 190) = 190 := by
  cases a <;> cases b <;> first | rfl | exact absurd h (by decide)
theorem good2 {a b : Bool} (h : (!a || !b) = false) : (a && b) = true := by cases a <;> cases b <;> first | rfl | exact absurd h (by decide)
set_option maxHeartbeats 16000000 in
theorem ccheck_t (c : CfS) (hc : CfL c) : Tri Tryz.prog 20 [.agg c.e.toArray] c.ro [] (fun _ : Unit => True) (fun _ => .int .i64 (if cfOk c.q = true then 0 else 190)) (fun _ => []) := by
  have h1 := clocal_t c
  have h2 := fcheck_t (num c.q 0) (num c.q 2) c.q.id (num c.q 3)
  have h3 := times_t c
  have h4 := bounds_t c
  have h5 := hcheck_t c.iA c.ic c.q.ifs (by have := hc.1; omega) hc.2.2.2
  have h6 := fun b => containsN_t c.iA c.q.ifs.length c.ic c.q.ifs rfl (by have := hc.1; omega) 66 [pt b] [cel b TCf c.e] (fun x => decide (num c.q 4 ≤ x.router)) (fun x _ => far_t b c x)
  have h7 := containsI_t c.dA c.q.deny.length c.dc c.q.deny rfl (by have := hc.2.1; omega) 67 [] [] (fun n => !within n 0 4294967295) (fun x _ => oddn_t x)
  have e1 := loc_code (num c.q 0) (num c.q 2) c.q.id (num c.q 3)
  have e2 := ifs_code c.q.ifs
  have e3 := far_any c.q
  have e4 := deny_any c.q.deny
  dsimp only [CfS.e] at h1 h3 h4 h6
  dsimp only [locE] at h1 h2
  rw [cf_e]
  refine Tri_of (N := Tryz.f20.ntmps) (c := bodyOf Tryz.f20) Tryz.func20 rfl rfl rfl rfl (fun w0 S0 => ?_)
  dsimp only [CfS.e, CfS.ro]
  repeat' (first | refine SW ?_ | (with_reducible refine HO_rw (congrArg Value.bool e1) ?_) | (with_reducible refine HO_rw (congrArg Value.bool e2) ?_) | (with_reducible refine HO_rw (congrArg Value.bool e3) ?_) | (with_reducible refine HO_rw (congrArg Value.bool e4) ?_) | (refine HO_k 12 rfl ?_; refine HO_callq rfl rfl rfl rfl (h1) (fun _ _ => rfl) (trivial) rfl rfl sqA ?_) | (refine HO_k 12 rfl ?_; refine HO_callq rfl rfl rfl rfl (h2) (fun _ _ => rfl) (trivial) rfl rfl sqA ?_) | (refine HO_k 12 rfl ?_; refine HO_callq rfl rfl rfl rfl (h3) (fun _ _ => rfl) (trivial) rfl rfl sqA ?_) | (refine HO_k 12 rfl ?_; refine HO_callq rfl rfl rfl rfl (h4) (fun _ _ => rfl) (trivial) rfl rfl sqA ?_) | (refine HO_k 12 rfl ?_; refine HO_callq rfl rfl rfl rfl (h5) (fun _ _ => rfl) (srcsA) rfl rfl sqA ?_) | (refine HO_k 12 rfl ?_; refine HO_callq rfl rfl rfl rfl (h6 _) (fun _ _ => rfl) (srcsA) rfl rfl sqA ?_) | (refine HO_k 12 rfl ?_; refine HO_callq rfl rfl rfl rfl (h7) (fun _ _ => rfl) (srcsA) rfl rfl sqA ?_) | exact HO_seg rfl rfl | refine S1 ?_ | (refine S2 ?_; intro _) | (refine S3 ?_; intro _ _) | (refine S4 ?_; intro _ _ _) | (refine HO_g 2 rfl ?_; (first | apply HO_and rfl rfl rfl rfl rfl rfl rfl rfl rfl | apply HO_or rfl rfl rfl rfl rfl rfl rfl rfl rfl)) | refine S5 ?_ | (intro hb; try replace hb := simB hb; try exact kill hb))
  refine HC_cond rfl rfl ?_ ?_
  · intro hb
    rw [bad3 hb]
    repeat' (first | refine SW ?_ | exact HO_seg rfl rfl | refine S1 ?_ | (refine S2 ?_; intro _) | (refine S3 ?_; intro _ _) | (refine S4 ?_; intro _ _ _) | (refine HO_g 2 rfl ?_; (first | apply HO_and rfl rfl rfl rfl rfl rfl rfl rfl rfl | apply HO_or rfl rfl rfl rfl rfl rfl rfl rfl rfl)) | refine S5 ?_ | (intro hb; try replace hb := simB hb; try exact kill hb))
    ((first | apply HX_ret | apply HX_retn); (repeat (first | exact Res_nil | apply Res_tmp rfl | apply Res_ce rfl rfl rfl)); unfold RetQ; refine ⟨(), trivial, ?_, Keeps.nil⟩)
    rfl
  intro hb
  rw [good3 hb]
  repeat' (first | refine SW ?_ | (with_reducible refine HO_rw (congrArg Value.bool e1) ?_) | (with_reducible refine HO_rw (congrArg Value.bool e2) ?_) | (with_reducible refine HO_rw (congrArg Value.bool e3) ?_) | (refine HO_k 12 rfl ?_; refine HO_callq rfl rfl rfl rfl (h1) (fun _ _ => rfl) (trivial) rfl rfl sqA ?_) | (refine HO_k 12 rfl ?_; refine HO_callq rfl rfl rfl rfl (h2) (fun _ _ => rfl) (trivial) rfl rfl sqA ?_) | (refine HO_k 12 rfl ?_; refine HO_callq rfl rfl rfl rfl (h3) (fun _ _ => rfl) (trivial) rfl rfl sqA ?_) | (refine HO_k 12 rfl ?_; refine HO_callq rfl rfl rfl rfl (h4) (fun _ _ => rfl) (trivial) rfl rfl sqA ?_) | (refine HO_k 12 rfl ?_; refine HO_callq rfl rfl rfl rfl (h5) (fun _ _ => rfl) (srcsA) rfl rfl sqA ?_) | (refine HO_k 12 rfl ?_; refine HO_callq rfl rfl rfl rfl (h6 _) (fun _ _ => rfl) (srcsA) rfl rfl sqA ?_) | (refine HO_k 12 rfl ?_; refine HO_callq rfl rfl rfl rfl (h7) (fun _ _ => rfl) (srcsA) rfl rfl sqA ?_) | exact HO_seg rfl rfl | refine S1 ?_ | (refine S2 ?_; intro _) | (refine S3 ?_; intro _ _) | (refine S4 ?_; intro _ _ _) | (refine HO_g 2 rfl ?_; (first | apply HO_and rfl rfl rfl rfl rfl rfl rfl rfl rfl | apply HO_or rfl rfl rfl rfl rfl rfl rfl rfl rfl)) | refine S5 ?_ | (intro hb; try replace hb := simB hb; try exact kill hb))
  refine HC_cond rfl rfl ?_ ?_
  · intro hb
    rw [bad2 hb]
    repeat' (first | refine SW ?_ | exact HO_seg rfl rfl | refine S1 ?_ | (refine S2 ?_; intro _) | (refine S3 ?_; intro _ _) | (refine S4 ?_; intro _ _ _) | (refine HO_g 2 rfl ?_; (first | apply HO_and rfl rfl rfl rfl rfl rfl rfl rfl rfl | apply HO_or rfl rfl rfl rfl rfl rfl rfl rfl rfl)) | refine S5 ?_ | (intro hb; try replace hb := simB hb; try exact kill hb))
    ((first | apply HX_ret | apply HX_retn); (repeat (first | exact Res_nil | apply Res_tmp rfl | apply Res_ce rfl rfl rfl)); unfold RetQ; refine ⟨(), trivial, ?_, Keeps.nil⟩)
    rfl
  intro hb
  rw [good2 hb]
  repeat' (first | refine SW ?_ | (with_reducible refine HO_rw (congrArg Value.bool e1) ?_) | (with_reducible refine HO_rw (congrArg Value.bool e2) ?_) | (with_reducible refine HO_rw (congrArg Value.bool e3) ?_) | (refine HO_k 12 rfl ?_; refine HO_callq rfl rfl rfl rfl (h1) (fun _ _ => rfl) (trivial) rfl rfl sqA ?_) | (refine HO_k 12 rfl ?_; refine HO_callq rfl rfl rfl rfl (h2) (fun _ _ => rfl) (trivial) rfl rfl sqA ?_) | (refine HO_k 12 rfl ?_; refine HO_callq rfl rfl rfl rfl (h3) (fun _ _ => rfl) (trivial) rfl rfl sqA ?_) | (refine HO_k 12 rfl ?_; refine HO_callq rfl rfl rfl rfl (h4) (fun _ _ => rfl) (trivial) rfl rfl sqA ?_) | (refine HO_k 12 rfl ?_; refine HO_callq rfl rfl rfl rfl (h5) (fun _ _ => rfl) (srcsA) rfl rfl sqA ?_) | (refine HO_k 12 rfl ?_; refine HO_callq rfl rfl rfl rfl (h6 _) (fun _ _ => rfl) (srcsA) rfl rfl sqA ?_) | (refine HO_k 12 rfl ?_; refine HO_callq rfl rfl rfl rfl (h7) (fun _ _ => rfl) (srcsA) rfl rfl sqA ?_) | exact HO_seg rfl rfl | refine S1 ?_ | (refine S2 ?_; intro _) | (refine S3 ?_; intro _ _) | (refine S4 ?_; intro _ _ _) | (refine HO_g 2 rfl ?_; (first | apply HO_and rfl rfl rfl rfl rfl rfl rfl rfl rfl | apply HO_or rfl rfl rfl rfl rfl rfl rfl rfl rfl)) | refine S5 ?_ | (intro hb; try replace hb := simB hb; try exact kill hb))
  refine HC_cond rfl rfl ?_ ?_
  · intro hb
    rw [e4] at hb
    have hq : denyOk c.q.deny = false := by revert hb; cases denyOk c.q.deny <;> decide
    rw [hq]
    repeat' (first | refine SW ?_ | exact HO_seg rfl rfl | refine S1 ?_ | (refine S2 ?_; intro _) | (refine S3 ?_; intro _ _) | (refine S4 ?_; intro _ _ _) | (refine HO_g 2 rfl ?_; (first | apply HO_and rfl rfl rfl rfl rfl rfl rfl rfl rfl | apply HO_or rfl rfl rfl rfl rfl rfl rfl rfl rfl)) | refine S5 ?_ | (intro hb; try replace hb := simB hb; try exact kill hb))
    ((first | apply HX_ret | apply HX_retn); (repeat (first | exact Res_nil | apply Res_tmp rfl | apply Res_ce rfl rfl rfl)); unfold RetQ; refine ⟨(), trivial, ?_, Keeps.nil⟩)
    rfl
  intro hb
  rw [e4] at hb
  have hq : denyOk c.q.deny = true := by revert hb; cases denyOk c.q.deny <;> decide
  rw [hq]
  repeat' (first | refine SW ?_ | exact HO_seg rfl rfl | refine S1 ?_ | (refine S2 ?_; intro _) | (refine S3 ?_; intro _ _) | (refine S4 ?_; intro _ _ _) | (refine HO_g 2 rfl ?_; (first | apply HO_and rfl rfl rfl rfl rfl rfl rfl rfl rfl | apply HO_or rfl rfl rfl rfl rfl rfl rfl rfl rfl)) | refine S5 ?_ | (intro hb; try replace hb := simB hb; try exact kill hb))
  ((first | apply HX_ret | apply HX_retn); (repeat (first | exact Res_nil | apply Res_tmp rfl | apply Res_ce rfl rfl rfl)); unfold RetQ; refine ⟨(), trivial, ?_, Keeps.nil⟩)
  rfl
end Go.Proofs.YtbhiojedmkcfoaaGreatDoor
