/- Part of a proof of many texts: what the theorem at its end leans on. -/
import Derived.Test.YtbhiojedmkcfoaaGreatDoorZCfB
namespace Go.Proofs.YtbhiojedmkcfoaaGreatDoor
set_option linter.unusedVariables false
set_option linter.unusedSimpArgs false
open Go.RowKit
attribute [local irreducible] HC HX HO Tri eP adr
@[reducible] def TCf : Nat := 26
@[reducible] def CfS.ro (c : CfS) : List SL := [arr IfQ.e 5 c.iA c.q.ifs, arr iE 1 c.dA c.q.deny]
def CfL (c : CfS) : Prop := c.q.ifs.length ≤ 100000 ∧ c.q.deny.length ≤ 100000 ∧ c.q.id < 4294967296 ∧ ∀ x ∈ c.q.ifs, x.a < 4294967296
theorem far_t (b : Nat) (c : CfS) (x : IfQ) : Tri Tryz.prog 66 [.agg x.e.toArray, pt b] [cel b TCf c.e] [] (fun _ : Unit => True) (fun _ => .bool (decide (num c.q 4 ≤ x.router))) (fun _ => []) := by
 refine Tri_of (N := Tryz.f66.ntmps) (c := bodyOf Tryz.f66) Tryz.func66 rfl rfl rfl rfl (fun w0 S0 => ?_)
 dsimp only [IfQ.e, CfS.e, pt]
 repeat' (first | refine SW ?_ | exact HO_seg rfl rfl | refine S1 ?_ | (refine S2 ?_; intro _) | (refine S3 ?_; intro _ _) | (refine S4 ?_; intro _ _ _) | (refine HO_g 2 rfl ?_; first | apply HO_a1 rfl | apply HO_o1 rfl) | refine S5 ?_ | (intro hb; try replace hb := simB hb; try exact kill hb))
 (refine SR ?_; unfold RetQ; refine ⟨(), trivial, ?_, Keeps.nil⟩)
 rfl
theorem oddn_t (n : Int) : Tri Tryz.prog 67 [.int .i64 n] [] [] (fun _ : Unit => True) (fun _ => .bool (!within n 0 4294967295)) (fun _ => []) := by
 have hin := cwithin_t n 0 4294967295
 refine Tri_of (N := Tryz.f67.ntmps) (c := bodyOf Tryz.f67) Tryz.func67 rfl rfl rfl rfl (fun w0 S0 => ?_)
 repeat' (first | refine SW ?_ | (refine HO_k 12 rfl ?_; refine HO_callq rfl rfl rfl rfl (hin) (fun _ _ => rfl) (trivial) rfl rfl sqA ?_) | exact HO_seg rfl rfl | refine S1 ?_ | (refine S2 ?_; intro _) | (refine S3 ?_; intro _ _) | (refine S4 ?_; intro _ _ _) | (refine HO_g 2 rfl ?_; first | apply HO_a1 rfl | apply HO_o1 rfl) | refine S5 ?_ | (intro hb; try replace hb := simB hb; try exact kill hb))
 (refine SR ?_; unfold RetQ; refine ⟨(), trivial, ?_, Keeps.nil⟩)
 rfl
def denyOk (l : List Int) : Bool := decide (l.length ≤ 16) && l.all (fun n => within n 0 4294967295)
def farOk (q : CfQ) : Bool := q.ifs.all (fun x => decide (x.router < num q 4))
theorem cf_e (q : CfQ) : cfOk q = ((locOk (num q 0) (num q 2) q.id (num q 3) && timesB q && boundsB q) && (ifsOk q.ifs && farOk q) && denyOk q.deny) := by
 unfold cfOk boundsB timesB farOk denyOk
 simp only [Bool.and_assoc]
theorem far_any (q : CfQ) : q.ifs.any (fun x => decide (num q 4 ≤ x.router)) = !farOk q := by
 unfold farOk
 induction q.ifs with
 | nil => rfl
 | cons x l ih =>
  simp only [List.any_cons, List.all_cons, ih, Bool.not_and]
  congr 1
  by_cases h : x.router < num q 4
  ·rw [decide_eq_true h, decide_eq_false (by omega)]; rfl
  ·rw [decide_eq_false h, decide_eq_true (by omega)]; rfl
theorem deny_any (l : List Int) : (decide ((16 : Int) < l.length) || l.any (fun n => !within n 0 4294967295)) = !denyOk l := by
 unfold denyOk
 have h1 : l.any (fun n => !within n 0 4294967295) = !l.all (fun n => within n 0 4294967295) := by
  induction l with
  | nil => rfl
  | cons x l ih => simp only [List.any_cons, List.all_cons, ih, Bool.not_and]
 rw [h1]
 by_cases h : l.length ≤ 16
 ·rw [decide_eq_true h, decide_eq_false (by omega)]; simp
 ·rw [decide_eq_false h, decide_eq_true (by omega)]; simp
theorem loc_code (sa hold : Int) (id : Nat) (retry : Int) : (!decide ((if opnOk sa hold id = true then (if within retry 1 65535 = true then (0 : Int) else 1) else 40) = 0)) = !locOk sa hold id retry := by
 rw [loc_eq]
 cases opnOk sa hold id <;> cases within retry 1 65535 <;> rfl
theorem ifs_code (l : List IfQ) : (!decide ((if ifsOk l = true then (0 : Int) else 160) = 0)) = !ifsOk l := by cases ifsOk l <;> rfl
theorem bad3 {a b c : Bool} {r s : Bool} (h : (!a || !b || !c) = true) : (if (a && b && c && r && s) = true then (0 : Int) else 190) = 190 := by
 cases a <;> cases b <;> cases c <;> first | rfl | exact absurd h (by decide)
theorem good3 {a b c : Bool} (h : (!a || !b || !c) = false) : (a && b && c) = true := by cases a <;> cases b <;> cases c <;> first | rfl | exact absurd h (by decide)
theorem bad2 {a b : Bool} {s : Bool} (h : (!a || !b) = true) : (if (true && (a && b) && s) = true then (0 : Int) else 190) = 190 := by
 cases a <;> cases b <;> first | rfl | exact absurd h (by decide)
theorem good2 {a b : Bool} (h : (!a || !b) = false) : (a && b) = true := by cases a <;> cases b <;> first | rfl | exact absurd h (by decide)
set_option maxHeartbeats 16000000 in
theorem ccheck_t (c : CfS) (hc : CfL c) : Tri Tryz.prog 20 [.agg c.e.toArray] c.ro [] (fun _ : Unit => True) (fun _ => .int .i64 (if cfOk c.q = true then 0 else 190)) (fun _ => []) := by
 have h1 := clocal_t c
 have h2 := fcheck_t (num c.q 0) (num c.q 2) c.q.id (num c.q 3)
 have h3 := times_t c
 have h4 := bounds_t c
 have h5 := hcheck_t c.iA c.ic c.q.ifs (by have := hc.1; omega) hc.2.2.2
 have h6 := fun b => containsN_t c.iA c.q.ifs.length c.ic c.q.ifs rfl (by have := hc.1; omega) 66 [pt b] [cel b TCf c.e] (fun x => decide (num c.q 4 ≤ x.router)) (fun x _ => far_t b c x)
 have h7 := containsI_t c.dA c.q.deny.length c.dc c.q.deny rfl (by have := hc.2.1; omega) 67 [] [] (fun n => !within n 0 4294967295) (fun x _ => oddn_t x)
 have e1 := loc_code (num c.q 0) (num c.q 2) c.q.id (num c.q 3)
 have e2 := ifs_code c.q.ifs
 have e3 := far_any c.q
 have e4 := deny_any c.q.deny
 dsimp only [CfS.e] at h1 h3 h4 h6
 dsimp only [locE] at h1 h2
 rw [cf_e]
 refine Tri_of (N := Tryz.f20.ntmps) (c := bodyOf Tryz.f20) Tryz.func20 rfl rfl rfl rfl (fun w0 S0 => ?_)
 dsimp only [CfS.e, CfS.ro]
 repeat' (first | refine SW ?_ | (with_reducible refine HO_rw (congrArg Value.bool e1) ?_) | (with_reducible refine HO_rw (congrArg Value.bool e2) ?_) | (with_reducible refine HO_rw (congrArg Value.bool e3) ?_) | (with_reducible refine HO_rw (congrArg Value.bool e4) ?_) | (refine HO_k 12 rfl ?_; refine HO_callq rfl rfl rfl rfl (h1) (fun _ _ => rfl) (trivial) rfl rfl sqA ?_) | (refine HO_k 12 rfl ?_; refine HO_callq rfl rfl rfl rfl (h2) (fun _ _ => rfl) (trivial) rfl rfl sqA ?_) | (refine HO_k 12 rfl ?_; refine HO_callq rfl rfl rfl rfl (h3) (fun _ _ => rfl) (trivial) rfl rfl sqA ?_) | (refine HO_k 12 rfl ?_; refine HO_callq rfl rfl rfl rfl (h4) (fun _ _ => rfl) (trivial) rfl rfl sqA ?_) | (refine HO_k 12 rfl ?_; refine HO_callq rfl rfl rfl rfl (h5) (fun _ _ => rfl) (srcsA) rfl rfl sqA ?_) | (refine HO_k 12 rfl ?_; refine HO_callq rfl rfl rfl rfl (h6 _) (fun _ _ => rfl) (srcsA) rfl rfl sqA ?_) | (refine HO_k 12 rfl ?_; refine HO_callq rfl rfl rfl rfl (h7) (fun _ _ => rfl) (srcsA) rfl rfl sqA ?_) | exact HO_seg rfl rfl | refine S1 ?_ | (refine S2 ?_; intro _) | (refine S3 ?_; intro _ _) | (refine S4 ?_; intro _ _ _) | (refine HO_g 2 rfl ?_; first | apply HO_a1 rfl | apply HO_o1 rfl) | refine S5 ?_ | (intro hb; try replace hb := simB hb; try exact kill hb))
 refine HC_cond rfl rfl ?_ ?_
 ·intro hb
  rw [bad3 hb]
  repeat' (first | refine SW ?_ | exact HO_seg rfl rfl | refine S1 ?_ | (refine S2 ?_; intro _) | (refine S3 ?_; intro _ _) | (refine S4 ?_; intro _ _ _) | (refine HO_g 2 rfl ?_; first | apply HO_a1 rfl | apply HO_o1 rfl) | refine S5 ?_ | (intro hb; try replace hb := simB hb; try exact kill hb))
  (refine SR ?_; unfold RetQ; refine ⟨(), trivial, ?_, Keeps.nil⟩)
  rfl
 intro hb
 rw [good3 hb]
 repeat' (first | refine SW ?_ | (with_reducible refine HO_rw (congrArg Value.bool e1) ?_) | (with_reducible refine HO_rw (congrArg Value.bool e2) ?_) | (with_reducible refine HO_rw (congrArg Value.bool e3) ?_) | (refine HO_k 12 rfl ?_; refine HO_callq rfl rfl rfl rfl (h1) (fun _ _ => rfl) (trivial) rfl rfl sqA ?_) | (refine HO_k 12 rfl ?_; refine HO_callq rfl rfl rfl rfl (h2) (fun _ _ => rfl) (trivial) rfl rfl sqA ?_) | (refine HO_k 12 rfl ?_; refine HO_callq rfl rfl rfl rfl (h3) (fun _ _ => rfl) (trivial) rfl rfl sqA ?_) | (refine HO_k 12 rfl ?_; refine HO_callq rfl rfl rfl rfl (h4) (fun _ _ => rfl) (trivial) rfl rfl sqA ?_) | (refine HO_k 12 rfl ?_; refine HO_callq rfl rfl rfl rfl (h5) (fun _ _ => rfl) (srcsA) rfl rfl sqA ?_) | (refine HO_k 12 rfl ?_; refine HO_callq rfl rfl rfl rfl (h6 _) (fun _ _ => rfl) (srcsA) rfl rfl sqA ?_) | (refine HO_k 12 rfl ?_; refine HO_callq rfl rfl rfl rfl (h7) (fun _ _ => rfl) (srcsA) rfl rfl sqA ?_) | exact HO_seg rfl rfl | refine S1 ?_ | (refine S2 ?_; intro _) | (refine S3 ?_; intro _ _) | (refine S4 ?_; intro _ _ _) | (refine HO_g 2 rfl ?_; first | apply HO_a1 rfl | apply HO_o1 rfl) | refine S5 ?_ | (intro hb; try replace hb := simB hb; try exact kill hb))
 refine HC_cond rfl rfl ?_ ?_
 ·intro hb
  rw [bad2 hb]
  repeat' (first | refine SW ?_ | exact HO_seg rfl rfl | refine S1 ?_ | (refine S2 ?_; intro _) | (refine S3 ?_; intro _ _) | (refine S4 ?_; intro _ _ _) | (refine HO_g 2 rfl ?_; first | apply HO_a1 rfl | apply HO_o1 rfl) | refine S5 ?_ | (intro hb; try replace hb := simB hb; try exact kill hb))
  (refine SR ?_; unfold RetQ; refine ⟨(), trivial, ?_, Keeps.nil⟩)
  rfl
 intro hb
 rw [good2 hb]
 repeat' (first | refine SW ?_ | (with_reducible refine HO_rw (congrArg Value.bool e1) ?_) | (with_reducible refine HO_rw (congrArg Value.bool e2) ?_) | (with_reducible refine HO_rw (congrArg Value.bool e3) ?_) | (refine HO_k 12 rfl ?_; refine HO_callq rfl rfl rfl rfl (h1) (fun _ _ => rfl) (trivial) rfl rfl sqA ?_) | (refine HO_k 12 rfl ?_; refine HO_callq rfl rfl rfl rfl (h2) (fun _ _ => rfl) (trivial) rfl rfl sqA ?_) | (refine HO_k 12 rfl ?_; refine HO_callq rfl rfl rfl rfl (h3) (fun _ _ => rfl) (trivial) rfl rfl sqA ?_) | (refine HO_k 12 rfl ?_; refine HO_callq rfl rfl rfl rfl (h4) (fun _ _ => rfl) (trivial) rfl rfl sqA ?_) | (refine HO_k 12 rfl ?_; refine HO_callq rfl rfl rfl rfl (h5) (fun _ _ => rfl) (srcsA) rfl rfl sqA ?_) | (refine HO_k 12 rfl ?_; refine HO_callq rfl rfl rfl rfl (h6 _) (fun _ _ => rfl) (srcsA) rfl rfl sqA ?_) | (refine HO_k 12 rfl ?_; refine HO_callq rfl rfl rfl rfl (h7) (fun _ _ => rfl) (srcsA) rfl rfl sqA ?_) | exact HO_seg rfl rfl | refine S1 ?_ | (refine S2 ?_; intro _) | (refine S3 ?_; intro _ _) | (refine S4 ?_; intro _ _ _) | (refine HO_g 2 rfl ?_; first | apply HO_a1 rfl | apply HO_o1 rfl) | refine S5 ?_ | (intro hb; try replace hb := simB hb; try exact kill hb))
 refine HC_cond rfl rfl ?_ ?_
 ·intro hb
  rw [e4] at hb
  have hq : denyOk c.q.deny = false := by revert hb; cases denyOk c.q.deny <;> decide
  rw [hq]
  repeat' (first | refine SW ?_ | exact HO_seg rfl rfl | refine S1 ?_ | (refine S2 ?_; intro _) | (refine S3 ?_; intro _ _) | (refine S4 ?_; intro _ _ _) | (refine HO_g 2 rfl ?_; first | apply HO_a1 rfl | apply HO_o1 rfl) | refine S5 ?_ | (intro hb; try replace hb := simB hb; try exact kill hb))
  (refine SR ?_; unfold RetQ; refine ⟨(), trivial, ?_, Keeps.nil⟩)
  rfl
 intro hb
 rw [e4] at hb
 have hq : denyOk c.q.deny = true := by revert hb; cases denyOk c.q.deny <;> decide
 rw [hq]
 repeat' (first | refine SW ?_ | exact HO_seg rfl rfl | refine S1 ?_ | (refine S2 ?_; intro _) | (refine S3 ?_; intro _ _) | (refine S4 ?_; intro _ _ _) | (refine HO_g 2 rfl ?_; first | apply HO_a1 rfl | apply HO_o1 rfl) | refine S5 ?_ | (intro hb; try replace hb := simB hb; try exact kill hb))
 (refine SR ?_; unfold RetQ; refine ⟨(), trivial, ?_, Keeps.nil⟩)
 rfl
def hdB (q : CfQ) : Bool := locOk (num q 0) (num q 2) q.id (num q 3) && within (num q 4) 1 16 && within (num q 5) 0 16 && within (num q 6) 0 16 && ifsOk q.ifs && within (num q 7) 1 1000 && within (num q 8) 0 (num q 7) && within (num q 9) 1 1024
def tlB (q : CfQ) : Bool := within (num q 10) 1 1048576 && within (num q 11) 1 1048576 && within (num q 12) 1 1048576 && within (num q 13) 1 1048576 && within (num q 14) 1 4294967295 && within (num q 15) 0 255 && decide (q.deny.length ≤ 16) && within (num q 16) 0 65536 && within (num q 17) 4096 65536
theorem cf_e2 (q : CfQ) : cfOk q = (hdB q && tlB q && farOk q && q.deny.all (fun n => within n 0 4294967295)) := by
 unfold cfOk hdB tlB farOk
 ac_rfl
theorem head_e (q : CfQ) : (!locOk (num q 0) (num q 2) q.id (num q 3) || !within (num q 4) 1 16 || !within (num q 5) 0 16 || !within (num q 6) 0 16 || !ifsOk q.ifs || !within (num q 7) 1 1000 || !within (num q 8) 0 (num q 7) || !within (num q 9) 1 1024) = !hdB q := by
 unfold hdB
 simp only [Bool.not_and]
theorem len_e (l : List Int) : decide ((16 : Int) < l.length) = !decide (l.length ≤ 16) := by
 by_cases h : l.length ≤ 16
 ·rw [decide_eq_true h, decide_eq_false (by omega)]; rfl
 ·rw [decide_eq_false h, decide_eq_true (by omega)]; rfl
theorem tail_e (q : CfQ) : (!within (num q 10) 1 1048576 || !within (num q 11) 1 1048576 || !within (num q 12) 1 1048576 || !within (num q 13) 1 1048576 || !within (num q 14) 1 4294967295 || !within (num q 15) 0 255 || decide ((16 : Int) < q.deny.length) || !within (num q 16) 0 65536 || !within (num q 17) 4096 65536) = !tlB q := by
 unfold tlB
 rw [len_e]
 simp only [Bool.not_and]
theorem far_no {q : CfQ} {j : Nat} {x : IfQ} (hx : q.ifs[j]? = some x) (h : num q 4 ≤ x.router) : farOk q = false :=
 List.all_eq_false.2 ⟨x, List.mem_of_getElem? hx, by rw [decide_eq_false (by omega)]; decide⟩
theorem far_yes {q : CfQ} (h : ∀ j x, j < q.ifs.length → q.ifs[j]? = some x → ¬ num q 4 ≤ x.router) : farOk q = true := by
 unfold farOk
 rw [List.all_eq_true]
 intro x hx
 obtain ⟨j, hj⟩ := List.getElem?_of_mem hx
 exact decide_eq_true (by have := h j x (List.getElem?_eq_some_iff.1 hj).1 hj; omega)
theorem and4_1 {a b c d : Bool} (h : a = false) : (a && b && c && d) = false := by subst h; rfl
theorem and4_2 {a b c d : Bool} (h : b = false) : (a && b && c && d) = false := by subst h; cases a <;> rfl
theorem and4_3 {a b c d : Bool} (h : c = false) : (a && b && c && d) = false := by subst h; cases a <;> cases b <;> rfl
theorem and4_4 {a b c d : Bool} (h : d = false) : (a && b && c && d) = false := by subst h; cases a <;> cases b <;> cases c <;> rfl
theorem not_t {b : Bool} (h : (!b) = true) : b = false := by cases b <;> first | rfl | cases h
theorem not_f {b : Bool} (h : (!b) = false) : b = true := by cases b <;> first | rfl | cases h
set_option maxHeartbeats 16000000 in
theorem rcheck19_t (c : CfS) (hc : CfL c) : Tri Tryz.prog 19 [.agg c.e.toArray] c.ro [] (fun _ : Unit => True) (fun _ => .bool (cfOk c.q)) (fun _ => []) := by
 have hin := rwithin19_t
 have h1 := rlocal_t c
 have h2 := r11check_t (num c.q 0) (num c.q 2) c.q.id (num c.q 3)
 have h5 := r16check_t c.iA c.ic c.q.ifs (by have := hc.1; omega) hc.2.2.2
 have l1 := hc.1
 have l2 := hc.2.1
 have e1 := head_e c.q
 have e2 := tail_e c.q
 dsimp only [CfS.e] at h1
 dsimp only [locE] at h1 h2
 rw [cf_e2]
 refine Tri_of (N := Tryz.f19.ntmps) (c := bodyOf Tryz.f19) Tryz.func19 rfl rfl rfl rfl (fun w0 S0 => ?_)
 dsimp only [CfS.e, CfS.ro]
 repeat' (first | refine SW ?_ | refine SD ?_ | (refine HO_k 12 rfl ?_; refine HO_callq rfl rfl rfl rfl (h1) (fun _ _ => rfl) (trivial) rfl rfl sqA ?_) | (refine HO_k 12 rfl ?_; refine HO_callq rfl rfl rfl rfl (h2) (fun _ _ => rfl) (trivial) rfl rfl sqA ?_) | (refine HO_k 12 rfl ?_; refine HO_callq rfl rfl rfl rfl (hin _ _ _) (fun _ _ => rfl) (trivial) rfl rfl sqA ?_) | (refine HO_k 12 rfl ?_; refine HO_callq rfl rfl rfl rfl (h5) (fun _ _ => rfl) (srcsA) rfl rfl sqA ?_) | exact HO_seg rfl rfl | refine S1 ?_ | (refine S2 ?_; intro _) | (refine S3 ?_; intro _ _) | (refine S4 ?_; intro _ _ _) | (refine HO_g 2 rfl ?_; first | apply HO_a1 rfl | apply HO_o1 rfl) | refine S5 ?_ | (intro hb; try replace hb := simB hb; try exact kill hb))
 refine HC_cond rfl rfl ?_ ?_
 ·intro hb
  rw [e1] at hb
  rw [and4_1 (not_t hb)]
  repeat' (first | refine SW ?_ | exact HO_seg rfl rfl | refine S1 ?_ | (refine S2 ?_; intro _) | (refine S3 ?_; intro _ _) | (refine S4 ?_; intro _ _ _) | (refine HO_g 2 rfl ?_; first | apply HO_a1 rfl | apply HO_o1 rfl) | refine S5 ?_ | (intro hb; try replace hb := simB hb; try exact kill hb))
  (refine SR ?_; unfold RetQ; refine ⟨(), trivial, ?_, Keeps.nil⟩)
  rfl
 intro hb
 rw [e1] at hb
 repeat' (first | refine SW ?_ | refine SD ?_ | (refine HO_k 12 rfl ?_; refine HO_callq rfl rfl rfl rfl (hin _ _ _) (fun _ _ => rfl) (trivial) rfl rfl sqA ?_) | exact HO_seg rfl rfl | refine S1 ?_ | (refine S2 ?_; intro _) | (refine S3 ?_; intro _ _) | (refine S4 ?_; intro _ _ _) | (refine HO_g 2 rfl ?_; first | apply HO_a1 rfl | apply HO_o1 rfl) | refine S5 ?_ | (intro hb; try replace hb := simB hb; try exact kill hb))
 refine HC_cond rfl rfl ?_ ?_
 ·intro hb2
  rw [e2] at hb2
  rw [and4_2 (not_t hb2)]
  repeat' (first | refine SW ?_ | exact HO_seg rfl rfl | refine S1 ?_ | (refine S2 ?_; intro _) | (refine S3 ?_; intro _ _) | (refine S4 ?_; intro _ _ _) | (refine HO_g 2 rfl ?_; first | apply HO_a1 rfl | apply HO_o1 rfl) | refine S5 ?_ | (intro hb; try replace hb := simB hb; try exact kill hb))
  (refine SR ?_; unfold RetQ; refine ⟨(), trivial, ?_, Keeps.nil⟩)
  rfl
 intro hb2
 rw [e2] at hb2
 repeat' (first | refine SW ?_ | refine SD ?_ | exact HO_seg rfl rfl | refine S1 ?_ | (refine S2 ?_; intro _) | (refine S3 ?_; intro _ _) | (refine S4 ?_; intro _ _ _) | (refine HO_g 2 rfl ?_; first | apply HO_a1 rfl | apply HO_o1 rfl) | refine S5 ?_ | (intro hb; try replace hb := simB hb; try exact kill hb))
 rename_i b
 refine HC_loop (α := Nat) (fun j => j ≤ c.q.ifs.length ∧ ∀ q y, q < j → c.q.ifs[q]? = some y → ¬ num c.q 4 ≤ y.router) (fun j => [(4, .int .i64 j), (1, pt b)]) (fun _ => [cel b TCf c.e]) (fun j => c.q.ifs.length - j) rfl 0 ⟨Nat.zero_le _, fun q y hq => absurd hq (Nat.not_lt_zero _)⟩ ⟨rfl, rfl, trivial⟩ rfl ?_
 rintro j ⟨hj, hno⟩
 dsimp only [CfS.e]
 rcases Nat.lt_or_ge j c.q.ifs.length with hlt | hge
 ·obtain ⟨x, hx⟩ : ∃ x, c.q.ifs[j]? = some x := ⟨c.q.ifs[j], List.getElem?_eq_getElem hlt⟩
  repeat' (first | refine SW ?_ | refine SD ?_ | exact HO_seg rfl rfl | refine S1 ?_ | (refine S2 ?_; intro _) | (refine S3 ?_; intro _ _) | (refine S4 ?_; intro _ _ _) | (refine HO_g 2 rfl ?_; first | apply HO_a1 rfl | apply HO_o1 rfl) | refine S5 ?_ | (intro hb; try replace hb := simB hb; try exact kill hb))
  refine HC_cond rfl rfl (fun hz => ?_) (fun hz => ?_)
  ·have hz' := of_decide_eq_true hz
   rw [and4_3 (far_no hx hz')]
   repeat' (first | refine SW ?_ | exact HO_seg rfl rfl | refine S1 ?_ | (refine S2 ?_; intro _) | (refine S3 ?_; intro _ _) | (refine S4 ?_; intro _ _ _) | (refine HO_g 2 rfl ?_; first | apply HO_a1 rfl | apply HO_o1 rfl) | refine S5 ?_ | (intro hb; try replace hb := simB hb; try exact kill hb))
   (refine SR ?_; unfold RetQ; refine ⟨(), trivial, ?_, Keeps.nil⟩)
   rfl
  ·have hz' := of_decide_eq_false hz
   repeat' (first | refine SW ?_ | exact HO_seg rfl rfl | refine S1 ?_ | (refine S2 ?_; intro _) | (refine S3 ?_; intro _ _) | (refine S4 ?_; intro _ _ _) | (refine HO_g 2 rfl ?_; first | apply HO_a1 rfl | apply HO_o1 rfl) | refine S5 ?_ | (intro hb; try replace hb := simB hb; try exact kill hb))
   exact HX_at (j + 1) ⟨⟨hlt, fun q y hq hy => by
    rcases Nat.lt_or_ge q j with h | h
    ·exact hno q y h hy
    ·obtain rfl : q = j := by omega
     rw [hx] at hy
     injection hy with hy
     exact hy ▸ hz'⟩, by show c.q.ifs.length - (j + 1) < c.q.ifs.length - j; omega⟩ ⟨rfl, rfl, trivial⟩ rfl
 ·obtain rfl : j = c.q.ifs.length := by omega
  have hf := far_yes hno
  repeat' (first | refine SW ?_ | refine SD ?_ | exact HO_seg rfl rfl | refine S1 ?_ | (refine S2 ?_; intro _) | (refine S3 ?_; intro _ _) | (refine S4 ?_; intro _ _ _) | (refine HO_g 2 rfl ?_; first | apply HO_a1 rfl | apply HO_o1 rfl) | refine S5 ?_ | (intro hb; try replace hb := simB hb; try exact kill hb))
  refine HC_loop (α := Nat) (fun k => k ≤ c.q.deny.length ∧ ∀ q y, q < k → c.q.deny[q]? = some y → within y 0 4294967295 = true) (fun k => [(5, .int .i64 k), (1, pt b)]) (fun _ => [cel b TCf c.e]) (fun k => c.q.deny.length - k) rfl 0 ⟨Nat.zero_le _, fun q y hq => absurd hq (Nat.not_lt_zero _)⟩ ⟨rfl, rfl, trivial⟩ rfl ?_
  rintro k ⟨hk, hdn⟩
  dsimp only [CfS.e]
  rcases Nat.lt_or_ge k c.q.deny.length with hlt | hge
  ·obtain ⟨x, hx⟩ : ∃ x, c.q.deny[k]? = some x := ⟨c.q.deny[k], List.getElem?_eq_getElem hlt⟩
   repeat' (first | refine SW ?_ | refine SD ?_ | (refine HO_k 12 rfl ?_; refine HO_callq rfl rfl rfl rfl (hin _ _ _) (fun _ _ => rfl) (trivial) rfl rfl sqA ?_) | exact HO_seg rfl rfl | refine S1 ?_ | (refine S2 ?_; intro _) | (refine S3 ?_; intro _ _) | (refine S4 ?_; intro _ _ _) | (refine HO_g 2 rfl ?_; first | apply HO_a1 rfl | apply HO_o1 rfl) | refine S5 ?_ | (intro hb; try replace hb := simB hb; try exact kill hb))
   refine HC_cond rfl rfl (fun hz => ?_) (fun hz => ?_)
   ·rw [and4_4 (List.all_eq_false.2 ⟨x, List.mem_of_getElem? hx, by rw [not_t hz]; decide⟩)]
    repeat' (first | refine SW ?_ | exact HO_seg rfl rfl | refine S1 ?_ | (refine S2 ?_; intro _) | (refine S3 ?_; intro _ _) | (refine S4 ?_; intro _ _ _) | (refine HO_g 2 rfl ?_; first | apply HO_a1 rfl | apply HO_o1 rfl) | refine S5 ?_ | (intro hb; try replace hb := simB hb; try exact kill hb))
    (refine SR ?_; unfold RetQ; refine ⟨(), trivial, ?_, Keeps.nil⟩)
    rfl
   ·repeat' (first | refine SW ?_ | exact HO_seg rfl rfl | refine S1 ?_ | (refine S2 ?_; intro _) | (refine S3 ?_; intro _ _) | (refine S4 ?_; intro _ _ _) | (refine HO_g 2 rfl ?_; first | apply HO_a1 rfl | apply HO_o1 rfl) | refine S5 ?_ | (intro hb; try replace hb := simB hb; try exact kill hb))
    exact HX_at (k + 1) ⟨⟨hlt, fun q y hq hy => by
     rcases Nat.lt_or_ge q k with h | h
     ·exact hdn q y h hy
     ·obtain rfl : q = k := by omega
      rw [hx] at hy
      injection hy with hy
      exact hy ▸ not_f hz⟩, by show c.q.deny.length - (k + 1) < c.q.deny.length - k; omega⟩ ⟨rfl, rfl, trivial⟩ rfl
  ·obtain rfl : k = c.q.deny.length := by omega
   have hd : c.q.deny.all (fun n => within n 0 4294967295) = true := by
    rw [List.all_eq_true]
    intro x hx
    obtain ⟨q, hq⟩ := List.getElem?_of_mem hx
    exact hdn q x (List.getElem?_eq_some_iff.1 hq).1 hq
   rw [not_f hb, not_f hb2, hf, hd]
   repeat' (first | refine SW ?_ | refine SD ?_ | exact HO_seg rfl rfl | refine S1 ?_ | (refine S2 ?_; intro _) | (refine S3 ?_; intro _ _) | (refine S4 ?_; intro _ _ _) | (refine HO_g 2 rfl ?_; first | apply HO_a1 rfl | apply HO_o1 rfl) | refine S5 ?_ | (intro hb; try replace hb := simB hb; try exact kill hb))
   (refine SR ?_; unfold RetQ; refine ⟨(), trivial, ?_, Keeps.nil⟩)
   rfl
theorem rlarge19_t (c : CfS) : Tri Tryz.prog 13 [.agg c.e.toArray] [] [] (fun _ : Unit => True) (fun _ => .bool (decide ((60 : Int) < c.q.ifs.length) || decide ((60 : Int) < c.q.deny.length))) (fun _ => []) := by
 refine Tri_of (N := Tryz.f13.ntmps) (c := bodyOf Tryz.f13) Tryz.func13 rfl rfl rfl rfl (fun w0 S0 => ?_)
 dsimp only [CfS.e]
 repeat' (first | refine SW ?_ | refine SD ?_ | exact HO_seg rfl rfl | refine S1 ?_ | (refine S2 ?_; intro _) | (refine S3 ?_; intro _ _) | (refine S4 ?_; intro _ _ _) | (refine HO_g 2 rfl ?_; first | apply HO_a1 rfl | apply HO_o1 rfl) | refine S5 ?_ | (intro hb; try replace hb := simB hb; try exact kill hb))
 (refine SR ?_; unfold RetQ; refine ⟨(), trivial, ?_, Keeps.nil⟩)
 rfl
end Go.Proofs.YtbhiojedmkcfoaaGreatDoor
