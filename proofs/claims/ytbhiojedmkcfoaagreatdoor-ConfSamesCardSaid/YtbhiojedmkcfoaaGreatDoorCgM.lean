/- The laws of settings walked. -/
import Derived.Test.YtbhiojedmkcfoaaGreatDoorCgL
namespace Go.Proofs.YtbhiojedmkcfoaaGreatDoor
set_option linter.unusedVariables false
set_option linter.unusedSimpArgs false
open Go.RowKit
attribute [local irreducible] HC HX HO Tri eP adr

@[reducible] def cfRo (m : Int) : List SL := [tab1, glW, maxLen0 m]
def largeB (q : CfQ) : Bool := decide ((60 : Int) < q.ifs.length) || decide ((60 : Int) < q.deny.length)
theorem small_L {c : CfS} (hw : CfW c.q) (h : largeB c.q = false) : CfL c := by
  unfold largeB at h
  rw [Bool.or_eq_false_iff, decide_eq_false_iff_not, decide_eq_false_iff_not] at h
  exact ⟨by omega, by omega, hw.2.2.1, hw.2.2.2⟩
theorem ok_L {q : CfQ} (hw : CfW q) (h : cfOk q = true) (x : OA × OA) : CfL ⟨q, x.1.1, x.1.2, x.2.1, x.2.2⟩ := by
  have := cfOk_parts h
  exact ⟨by show q.ifs.length ≤ _; omega, by show q.deny.length ≤ _; omega, hw.2.2.1, hw.2.2.2⟩
theorem text_all (q : CfQ) (h : cfOk q = true) : (txt (linesOf q)).length ≤ 40000 := by
  have := text_len q h (linesOf q).length
  rw [List.take_length] at this
  exact this
theorem ok_loc {q : CfQ} (h : cfOk q = true) : (if opnOk (num q 0) (num q 2) q.id = true then (if within (num q 3) 1 65535 = true then (0 : Int) else 1) else 40) = 0 := by
  have h1 : locOk (num q 0) (num q 2) q.id (num q 3) = true := by
    unfold cfOk at h
    simp only [Bool.and_eq_true] at h
    exact h.1.1.1.1.1.1.1.1.1
  have h2 := loc_code (num q 0) (num q 2) q.id (num q 3)
  rw [h1] at h2
  simpa using h2
instance : TyDeep Tryz.prog 36 [0, 0, 0, 1, 0, 0] := ⟨⟨by kernel_rfl, by kernel_rfl⟩, by kernel_rfl⟩
theorem loc_same (sa hold : Int) (id : Nat) (retry : Int) : eqZ [0, 0, 0, 1, 0, 0] (locE sa hold id retry) (locE sa hold id retry) = some true := by
  have : eqZ [0, 0, 0, 1, 0, 0] (locE sa hold id retry) (locE sa hold id retry) = some (decide (sa = sa) && (decide (hold = hold) && (decide ((id : Int) = id) && (decide (true = true) && (decide ((1 : Int) = 1) && (decide (retry = retry) && true)))))) := rfl
  rw [this]
  simp
set_option maxHeartbeats 32000000 in
theorem lawChecks (m : Int) (c : CfS) (hw : CfW c.q) : Tri Tryz.prog 3 [.agg c.e.toArray] (cfRo m ++ c.ro) [] (fun _ : Unit => True) (fun _ => .bool true) (fun _ => []) := by
  have c0 := rlarge19_t c
  have c1 := cflives_t m
  dsimp only [CfS.ro, cfRo, List.cons_append, List.nil_append]
  cases hl : largeB c.q with
  | true =>
    rw [show (decide ((60 : Int) < c.q.ifs.length) || decide ((60 : Int) < c.q.deny.length)) = true from hl] at c0
    dsimp only [CfS.e] at c0
    refine Tri_of (N := Tryz.f3.ntmps) (c := bodyOf Tryz.f3) Tryz.func3 rfl rfl rfl rfl (fun w0 S0 => ?_)
    dsimp only [CfS.e]
    repeat' (first | refine SW ?_ | refine SD ?_ | (refine HO_k 12 rfl ?_; refine HO_callq rfl rfl rfl rfl (c0) (fun _ _ => rfl) (trivial) rfl rfl sqA ?_) | (refine HO_k 12 rfl ?_; refine HO_callq rfl rfl rfl rfl (c1) (fun _ _ => rfl) (srcsA) rfl rfl sqA ?_) | exact HO_seg rfl rfl | refine S1 ?_ | (refine S2 ?_; intro _) | (refine S3 ?_; intro _ _) | (refine S4 ?_; intro _ _ _) | (refine HO_g 2 rfl ?_; (first | apply HO_and rfl rfl rfl rfl rfl rfl rfl rfl rfl | apply HO_or rfl rfl rfl rfl rfl rfl rfl rfl rfl)) | refine S5 ?_ | (intro hb; try replace hb := simB hb; try exact kill hb))
    ((first | apply HX_ret | apply HX_retn); (repeat (first | exact Res_nil | apply Res_tmp rfl | apply Res_ce rfl rfl rfl)); unfold RetQ; refine ⟨(), trivial, ?_, Keeps.nil⟩)
    rfl
  | false =>
    rw [show (decide ((60 : Int) < c.q.ifs.length) || decide ((60 : Int) < c.q.deny.length)) = false from hl] at c0
    have hL := small_L hw hl
    have c2 := cshow_t c hL
    have c3 := clocal_t c
    have c4 := rlocal_t c
    have c5 := rcheck19_t c hL
    have c6 := ccheck_t c hL
    dsimp only [CfS.ro, List.cons_append, List.nil_append] at c2 c5 c6
    cases hok : cfOk c.q with
    | false =>
      simp only [hok, Bool.false_eq_true, if_false] at c2 c5 c6
      have c7 := cparse_t m [] (by decide)
      simp only [parS_none (show parM [] = none from rfl), show parM [] = none from rfl, Option.isSome_none, Bool.false_eq_true, if_false] at c7
      dsimp only [CfS.e] at c0 c2 c3 c4 c5 c6 c7
      refine Tri_of (N := Tryz.f3.ntmps) (c := bodyOf Tryz.f3) Tryz.func3 rfl rfl rfl rfl (fun w0 S0 => ?_)
      dsimp only [CfS.e]
      repeat' (first | refine SW ?_ | (refine HO_k 0 rfl ?_; refine HO_eqd (b := true) (r := false) rfl rfl rfl (loc_same _ _ _ _) rfl rfl rfl rdA ?_) | (with_reducible refine HO_rw (congrArg Value.bool (sba_eq _ _)) ?_) | refine SD ?_ | (refine HO_k 12 rfl ?_; refine HO_callq rfl rfl rfl rfl (c0) (fun _ _ => rfl) (trivial) rfl rfl sqA ?_) | (refine HO_k 12 rfl ?_; refine HO_callq rfl rfl rfl rfl (c1) (fun _ _ => rfl) (srcsA) rfl rfl sqA ?_) | (refine HO_k 12 rfl ?_; refine HO_callq rfl rfl rfl rfl (c2) (fun _ _ => rfl) (srcsA) rfl rfl sqA ?_) | (refine HO_k 12 rfl ?_; refine HO_callq rfl rfl rfl rfl (c3) (fun _ _ => rfl) (trivial) rfl rfl sqA ?_) | (refine HO_k 12 rfl ?_; refine HO_callq rfl rfl rfl rfl (c4) (fun _ _ => rfl) (trivial) rfl rfl sqA ?_) | (refine HO_k 12 rfl ?_; refine HO_callq rfl rfl rfl rfl (c5) (fun _ _ => rfl) (srcsA) rfl rfl sqA ?_) | (refine HO_k 12 rfl ?_; refine HO_callq rfl rfl rfl rfl (c6) (fun _ _ => rfl) (srcsA) rfl rfl sqA ?_) | (refine HO_k 12 rfl ?_; refine HO_call rfl rfl rfl rfl (c7) rfl (srcsA) rfl rfl soA ?_; intro x hx; dsimp only [List.cons_append, List.nil_append]) | exact HO_seg rfl rfl | refine S1 ?_ | (refine S2 ?_; intro _) | (refine S3 ?_; intro _ _) | (refine S4 ?_; intro _ _ _) | (refine HO_g 2 rfl ?_; (first | apply HO_and rfl rfl rfl rfl rfl rfl rfl rfl rfl | apply HO_or rfl rfl rfl rfl rfl rfl rfl rfl rfl)) | refine S5 ?_ | (intro hb; try replace hb := simB hb; try exact kill hb))
      ((first | apply HX_ret | apply HX_retn); (repeat (first | exact Res_nil | apply Res_tmp rfl | apply Res_ce rfl rfl rfl)); unfold RetQ; refine ⟨(), trivial, ?_, Keeps.nil⟩)
      rfl
    | true =>
      simp only [hok, if_true] at c2 c5 c6
      have htl := text_all c.q hok
      have c7 := cparse_t m (txt (linesOf c.q)) (by omega)
      have hpm := parM_txt c.q hw hok
      simp only [parS_some hpm, hpm, Option.isSome_some, if_true] at c7
      have c8 := rshow19_t c hL hok
      have c9 := fun x => rsame19_t c ⟨c.q, x.1.1, x.1.2, x.2.1, x.2.2⟩ hL (ok_L hw hok x)
      simp only [sameQ] at c9
      have c10 := fcheck_t (num c.q 0) (num c.q 2) c.q.id (num c.q 3)
      rw [ok_loc hok] at c10
      dsimp only [CfS.e, CfS.ro, List.cons_append, List.nil_append] at c0 c2 c3 c4 c5 c6 c7 c8 c9
      dsimp only [locE] at c3 c4 c10
      obtain ⟨S, hS⟩ : ∃ S, txt (linesOf c.q) = S := ⟨_, rfl⟩
      simp only [hS] at c2 c7 c8
      refine Tri_of (N := Tryz.f3.ntmps) (c := bodyOf Tryz.f3) Tryz.func3 rfl rfl rfl rfl (fun w0 S0 => ?_)
      dsimp only [CfS.e]
      repeat' (first | refine SW ?_ | (refine HO_k 0 rfl ?_; refine HO_eqd (b := true) (r := false) rfl rfl rfl (loc_same _ _ _ _) rfl rfl rfl rdA ?_) | (with_reducible refine HO_rw (congrArg Value.bool (sba_eq _ _)) ?_) | refine SD ?_ | (refine HO_k 12 rfl ?_; refine HO_callq rfl rfl rfl rfl (c0) (fun _ _ => rfl) (trivial) rfl rfl sqA ?_) | (refine HO_k 12 rfl ?_; refine HO_callq rfl rfl rfl rfl (c1) (fun _ _ => rfl) (srcsA) rfl rfl sqA ?_) | (refine HO_k 12 rfl ?_; refine HO_callq rfl rfl rfl rfl (c2) (fun _ _ => rfl) (srcsA) rfl rfl sqA ?_) | (refine HO_k 12 rfl ?_; refine HO_callq rfl rfl rfl rfl (c3) (fun _ _ => rfl) (trivial) rfl rfl sqA ?_) | (refine HO_k 12 rfl ?_; refine HO_callq rfl rfl rfl rfl (c4) (fun _ _ => rfl) (trivial) rfl rfl sqA ?_) | (refine HO_k 12 rfl ?_; refine HO_callq rfl rfl rfl rfl (c5) (fun _ _ => rfl) (srcsA) rfl rfl sqA ?_) | (refine HO_k 12 rfl ?_; refine HO_callq rfl rfl rfl rfl (c6) (fun _ _ => rfl) (srcsA) rfl rfl sqA ?_) | (refine HO_k 12 rfl ?_; refine HO_call rfl rfl rfl rfl (c7) rfl (srcsA) rfl rfl soA ?_; intro x hx; dsimp only [List.cons_append, List.nil_append]) | (refine HO_k 12 rfl ?_; refine HO_callq rfl rfl rfl rfl (c8) (fun _ _ => rfl) (srcsA) rfl rfl sqA ?_) | (refine HO_k 12 rfl ?_; refine HO_callq rfl rfl rfl rfl (c9 _) (fun _ _ => rfl) (srcsA) rfl rfl sqA ?_) | (refine HO_k 12 rfl ?_; refine HO_callq rfl rfl rfl rfl (c10) (fun _ _ => rfl) (trivial) rfl rfl sqA ?_) | exact HO_seg rfl rfl | refine S1 ?_ | (refine S2 ?_; intro _) | (refine S3 ?_; intro _ _) | (refine S4 ?_; intro _ _ _) | (refine HO_g 2 rfl ?_; (first | apply HO_and rfl rfl rfl rfl rfl rfl rfl rfl rfl | apply HO_or rfl rfl rfl rfl rfl rfl rfl rfl rfl)) | refine S5 ?_ | (intro hb; try replace hb := simB hb; try exact kill hb))
      ((first | apply HX_ret | apply HX_retn); (repeat (first | exact Res_nil | apply Res_tmp rfl | apply Res_ce rfl rfl rfl)); unfold RetQ; refine ⟨(), trivial, ?_, Keeps.nil⟩)
      rfl
set_option maxHeartbeats 32000000 in
theorem lawParses (m : Int) (s : List UInt8) : Tri Tryz.prog 4 [.string ⟨s.toArray⟩] (cfRo m) [] (fun _ : Unit => True) (fun _ => .bool true) (fun _ => []) := by
  have c1 := cflives_t m
  dsimp only [cfRo]
  by_cases hl : 5000 < s.length
  · refine Tri_of (N := Tryz.f4.ntmps) (c := bodyOf Tryz.f4) Tryz.func4 rfl rfl rfl rfl (fun w0 S0 => ?_)
    repeat' (first | refine SW ?_ | (refine HO_k 8 rfl ?_; refine HO_slen rfl rfl rfl rfl rdA ?_) | refine SD ?_ | (refine HO_k 12 rfl ?_; refine HO_callq rfl rfl rfl rfl (c1) (fun _ _ => rfl) (srcsA) rfl rfl sqA ?_) | exact HO_seg rfl rfl | refine S1 ?_ | (refine S2 ?_; intro _) | (refine S3 ?_; intro _ _) | (refine S4 ?_; intro _ _ _) | (refine HO_g 2 rfl ?_; (first | apply HO_and rfl rfl rfl rfl rfl rfl rfl rfl rfl | apply HO_or rfl rfl rfl rfl rfl rfl rfl rfl rfl)) | refine S5 ?_ | (intro hb; try replace hb := simB hb; try exact kill hb))
    ((first | apply HX_ret | apply HX_retn); (repeat (first | exact Res_nil | apply Res_tmp rfl | apply Res_ce rfl rfl rfl)); unfold RetQ; refine ⟨(), trivial, ?_, Keeps.nil⟩)
    rfl
  have c2 := cparse_t m s (by omega)
  have c3 := rparse19_t s (by omega)
  cases hpm : parM s with
  | none =>
    simp only [parS_none hpm, hpm, Option.isSome_none, Bool.false_eq_true, if_false] at c2 c3
    have fL : CfL c0S := ⟨by decide, by decide, by decide, fun x hx => by cases hx⟩
    have c4 := rsame19_t c0S c0S fL fL
    rw [sameQ] at c4
    dsimp only [CfS.e] at c2 c3 c4
    refine Tri_of (N := Tryz.f4.ntmps) (c := bodyOf Tryz.f4) Tryz.func4 rfl rfl rfl rfl (fun w0 S0 => ?_)
    repeat' (first | refine SW ?_ | (refine HO_k 8 rfl ?_; refine HO_slen rfl rfl rfl rfl rdA ?_) | refine SD ?_ | (refine HO_k 12 rfl ?_; refine HO_callq rfl rfl rfl rfl (c1) (fun _ _ => rfl) (srcsA) rfl rfl sqA ?_) | (refine HO_k 12 rfl ?_; refine HO_call rfl rfl rfl rfl (c2) rfl (srcsA) rfl rfl soA ?_; intro x hx; dsimp only [List.cons_append, List.nil_append]) | (refine HO_k 12 rfl ?_; refine HO_call rfl rfl rfl rfl (c3) rfl (trivial) rfl rfl soA ?_; intro y hy; dsimp only [List.cons_append, List.nil_append]) | (refine HO_k 12 rfl ?_; refine HO_callq rfl rfl rfl rfl (c4) (fun _ _ => rfl) (srcsA) rfl rfl sqA ?_) | exact HO_seg rfl rfl | refine S1 ?_ | (refine S2 ?_; intro _) | (refine S3 ?_; intro _ _) | (refine S4 ?_; intro _ _ _) | (refine HO_g 2 rfl ?_; (first | apply HO_and rfl rfl rfl rfl rfl rfl rfl rfl rfl | apply HO_or rfl rfl rfl rfl rfl rfl rfl rfl rfl)) | refine S5 ?_ | (intro hb; try replace hb := simB hb; try exact kill hb))
    ((first | apply HX_ret | apply HX_retn); (repeat (first | exact Res_nil | apply Res_tmp rfl | apply Res_ce rfl rfl rfl)); unfold RetQ; refine ⟨(), trivial, ?_, Keeps.nil⟩)
    rfl
  | some q =>
    obtain ⟨ht, hw, hok⟩ := txt_parM hpm
    simp only [parS_some hpm, hpm, Option.isSome_some, if_true] at c2 c3
    have c4 := fun x y => rsame19_t ⟨q, x.1.1, x.1.2, x.2.1, x.2.2⟩ ⟨q, y.1.1, y.1.2, y.2.1, y.2.2⟩ (ok_L hw hok x) (ok_L hw hok y)
    simp only [sameQ] at c4
    have c5 := fun x => cshow_t ⟨q, x.1.1, x.1.2, x.2.1, x.2.2⟩ (ok_L hw hok x)
    simp only [hok, if_true, ht] at c5
    dsimp only [CfS.e, CfS.ro, List.cons_append, List.nil_append] at c2 c3 c4 c5
    refine Tri_of (N := Tryz.f4.ntmps) (c := bodyOf Tryz.f4) Tryz.func4 rfl rfl rfl rfl (fun w0 S0 => ?_)
    repeat' (first | refine SW ?_ | (refine HO_k 8 rfl ?_; refine HO_slen rfl rfl rfl rfl rdA ?_) | (with_reducible refine HO_rw (congrArg Value.bool (sba_eq _ _)) ?_) | refine SD ?_ | (refine HO_k 12 rfl ?_; refine HO_callq rfl rfl rfl rfl (c1) (fun _ _ => rfl) (srcsA) rfl rfl sqA ?_) | (refine HO_k 12 rfl ?_; refine HO_call rfl rfl rfl rfl (c2) rfl (srcsA) rfl rfl soA ?_; intro x hx; dsimp only [List.cons_append, List.nil_append]) | (refine HO_k 12 rfl ?_; refine HO_call rfl rfl rfl rfl (c3) rfl (trivial) rfl rfl soA ?_; intro y hy; dsimp only [List.cons_append, List.nil_append]) | (refine HO_k 12 rfl ?_; refine HO_callq rfl rfl rfl rfl (c4 _ _) (fun _ _ => rfl) (srcsA) rfl rfl sqA ?_) | (refine HO_k 12 rfl ?_; refine HO_callq rfl rfl rfl rfl (c5 _) (fun _ _ => rfl) (srcsA) rfl rfl sqA ?_) | exact HO_seg rfl rfl | refine S1 ?_ | (refine S2 ?_; intro _) | (refine S3 ?_; intro _ _) | (refine S4 ?_; intro _ _ _) | (refine HO_g 2 rfl ?_; (first | apply HO_and rfl rfl rfl rfl rfl rfl rfl rfl rfl | apply HO_or rfl rfl rfl rfl rfl rfl rfl rfl rfl)) | refine S5 ?_ | (intro hb; try replace hb := simB hb; try exact kill hb))
    ((first | apply HX_ret | apply HX_retn); (repeat (first | exact Res_nil | apply Res_tmp rfl | apply Res_ce rfl rfl rfl)); unfold RetQ; refine ⟨(), trivial, ?_, Keeps.nil⟩)
    (simp; rfl)
set_option maxHeartbeats 32000000 in
theorem lawSames (m : Int) (c d : CfS) (hw : CfW c.q) (hv : CfW d.q) : Tri Tryz.prog 5 [.agg c.e.toArray, .agg d.e.toArray] (cfRo m ++ (c.ro ++ d.ro)) [] (fun _ : Unit => True) (fun _ => .bool true) (fun _ => []) := by
  have c0 := rlarge19_t c
  have d0 := rlarge19_t d
  have c1 := cflives_t m
  dsimp only [CfS.ro, cfRo, List.cons_append, List.nil_append]
  cases hl : largeB c.q with
  | true =>
    rw [show (decide ((60 : Int) < c.q.ifs.length) || decide ((60 : Int) < c.q.deny.length)) = true from hl] at c0
    dsimp only [CfS.e] at c0
    refine Tri_of (N := Tryz.f5.ntmps) (c := bodyOf Tryz.f5) Tryz.func5 rfl rfl rfl rfl (fun w0 S0 => ?_)
    dsimp only [CfS.e]
    repeat' (first | refine SW ?_ | ((refine HO_g 2 rfl ?_); (refine HO_skip rfl rfl rfl rfl rdA ?_)) | refine SD ?_ | (refine HO_k 12 rfl ?_; refine HO_callq rfl rfl rfl rfl (c0) (fun _ _ => rfl) (trivial) rfl rfl sqA ?_) | (refine HO_k 12 rfl ?_; refine HO_callq rfl rfl rfl rfl (c1) (fun _ _ => rfl) (srcsA) rfl rfl sqA ?_) | exact HO_seg rfl rfl | refine S1 ?_ | (refine S2 ?_; intro _) | (refine S3 ?_; intro _ _) | (refine S4 ?_; intro _ _ _) | (refine HO_g 2 rfl ?_; (first | apply HO_and rfl rfl rfl rfl rfl rfl rfl rfl rfl | apply HO_or rfl rfl rfl rfl rfl rfl rfl rfl rfl)) | refine S5 ?_ | (intro hb; try replace hb := simB hb; try exact kill hb))
    ((first | apply HX_ret | apply HX_retn); (repeat (first | exact Res_nil | apply Res_tmp rfl | apply Res_ce rfl rfl rfl)); unfold RetQ; refine ⟨(), trivial, ?_, Keeps.nil⟩)
    rfl
  | false =>
    rw [show (decide ((60 : Int) < c.q.ifs.length) || decide ((60 : Int) < c.q.deny.length)) = false from hl] at c0
    cases hk : largeB d.q with
    | true =>
      rw [show (decide ((60 : Int) < d.q.ifs.length) || decide ((60 : Int) < d.q.deny.length)) = true from hk] at d0
      dsimp only [CfS.e] at c0 d0
      refine Tri_of (N := Tryz.f5.ntmps) (c := bodyOf Tryz.f5) Tryz.func5 rfl rfl rfl rfl (fun w0 S0 => ?_)
      dsimp only [CfS.e]
      repeat' (first | refine SW ?_ | refine SD ?_ | (refine HO_k 12 rfl ?_; refine HO_callq rfl rfl rfl rfl (c0) (fun _ _ => rfl) (trivial) rfl rfl sqA ?_) | (refine HO_k 12 rfl ?_; refine HO_callq rfl rfl rfl rfl (d0) (fun _ _ => rfl) (trivial) rfl rfl sqA ?_) | (refine HO_k 12 rfl ?_; refine HO_callq rfl rfl rfl rfl (c1) (fun _ _ => rfl) (srcsA) rfl rfl sqA ?_) | exact HO_seg rfl rfl | refine S1 ?_ | (refine S2 ?_; intro _) | (refine S3 ?_; intro _ _) | (refine S4 ?_; intro _ _ _) | (refine HO_g 2 rfl ?_; (first | apply HO_and rfl rfl rfl rfl rfl rfl rfl rfl rfl | apply HO_or rfl rfl rfl rfl rfl rfl rfl rfl rfl)) | refine S5 ?_ | (intro hb; try replace hb := simB hb; try exact kill hb))
      ((first | apply HX_ret | apply HX_retn); (repeat (first | exact Res_nil | apply Res_tmp rfl | apply Res_ce rfl rfl rfl)); unfold RetQ; refine ⟨(), trivial, ?_, Keeps.nil⟩)
      rfl
    | false =>
      rw [show (decide ((60 : Int) < d.q.ifs.length) || decide ((60 : Int) < d.q.deny.length)) = false from hk] at d0
      have hL := small_L hw hl
      have hK := small_L hv hk
      have c2 := rsame19_t c d hL hK
      have c3 := csame_t c d hL hK
      dsimp only [CfS.e] at c0 d0 c2 c3
      refine Tri_of (N := Tryz.f5.ntmps) (c := bodyOf Tryz.f5) Tryz.func5 rfl rfl rfl rfl (fun w0 S0 => ?_)
      dsimp only [CfS.e]
      repeat' (first | refine SW ?_ | refine SD ?_ | (refine HO_k 12 rfl ?_; refine HO_callq rfl rfl rfl rfl (c0) (fun _ _ => rfl) (trivial) rfl rfl sqA ?_) | (refine HO_k 12 rfl ?_; refine HO_callq rfl rfl rfl rfl (d0) (fun _ _ => rfl) (trivial) rfl rfl sqA ?_) | (refine HO_k 12 rfl ?_; refine HO_callq rfl rfl rfl rfl (c1) (fun _ _ => rfl) (srcsA) rfl rfl sqA ?_) | (refine HO_k 12 rfl ?_; refine HO_callq rfl rfl rfl rfl (c2) (fun _ _ => rfl) (srcsA) rfl rfl sqA ?_) | (refine HO_k 12 rfl ?_; refine HO_callq rfl rfl rfl rfl (c3) (fun _ _ => rfl) (srcsA) rfl rfl sqA ?_) | exact HO_seg rfl rfl | refine S1 ?_ | (refine S2 ?_; intro _) | (refine S3 ?_; intro _ _) | (refine S4 ?_; intro _ _ _) | (refine HO_g 2 rfl ?_; (first | apply HO_and rfl rfl rfl rfl rfl rfl rfl rfl rfl | apply HO_or rfl rfl rfl rfl rfl rfl rfl rfl rfl)) | refine S5 ?_ | (intro hb; try replace hb := simB hb; try exact kill hb))
      ((first | apply HX_ret | apply HX_retn); (repeat (first | exact Res_nil | apply Res_tmp rfl | apply Res_ce rfl rfl rfl)); unfold RetQ; refine ⟨(), trivial, ?_, Keeps.nil⟩)
      (simp; rfl)
theorem edit_app (t : Bool) (x : List UInt8) : ∀ (p : Nat) (a : List (List UInt8)), editL t p (a ++ [x]) = editL t p a ++ (if a.length = p then (if t = true then [x, x] else []) else [x])
  | 0, [] => by cases t <;> rfl
  | p + 1, [] => by simp [editL]
  | 0, y :: a => by cases t <;> simp [editL]
  | p + 1, y :: a => by
    have ih := edit_app t x p a
    simp only [List.cons_append, editL, ih, List.length_cons]
    by_cases h : a.length = p
    · simp [h]
    · have h2 : ¬ a.length + 1 = p + 1 := by omega
      simp [h, h2]
theorem edit_mem (t : Bool) : ∀ (p : Nat) (a : List (List UInt8)), (∀ x ∈ editL t p a, x ∈ a) ∧ (editL t p a).length ≤ a.length + 1
  | 0, [] => by simp [editL]
  | p + 1, [] => by simp [editL]
  | 0, y :: a => by
    cases t
    · simp only [editL, Bool.false_eq_true, if_false]
      exact ⟨fun x hx => List.mem_cons_of_mem _ hx, by simp; omega⟩
    · simp only [editL, if_true]
      refine ⟨fun x hx => ?_, by simp⟩
      rcases List.mem_cons.1 hx with h | h
      · rw [h]; exact List.mem_cons_self
      · exact h
  | p + 1, y :: a => by
    obtain ⟨h1, h2⟩ := edit_mem t p a
    simp only [editL]
    refine ⟨fun x hx => ?_, by simp only [List.length_cons]; omega⟩
    rcases List.mem_cons.1 hx with h | h
    · rw [h]; exact List.mem_cons_self
    · exact List.mem_cons_of_mem _ (h1 x h)
theorem edit_take {t : Bool} {p i : Nat} {ls : List (List UInt8)} {x : List UInt8} (h : ls[i]? = some x) : txt (editL t p (ls.take (i + 1))) = txt (editL t p (ls.take i)) ++ (if i = p then (if t = true then x ++ [10] ++ (x ++ [10]) else []) else x ++ [10]) := by
  have hlt := (List.getElem?_eq_some_iff.1 h).1
  rw [List.take_add_one, h]
  show txt (editL t p (ls.take i ++ [x])) = _
  rw [edit_app, List.length_take, Nat.min_eq_left (by omega), txt_app]
  congr 1
  split
  · split <;> simp [txt]
  · simp [txt]
set_option maxHeartbeats 32000000 in
theorem lawLines (m : Int) (c : CfS) (hw : CfW c.q) (at_ : Int) (tw : Bool) : Tri Tryz.prog 6 [.agg c.e.toArray, .int .i64 at_, .bool tw] (cfRo m ++ c.ro) [] (fun _ : Unit => True) (fun _ => .bool true) (fun _ => []) := by
  have c0 := rlarge19_t c
  have c1 := cflives_t m
  dsimp only [CfS.ro, cfRo, List.cons_append, List.nil_append]
  cases hl : largeB c.q with
  | true =>
    rw [show (decide ((60 : Int) < c.q.ifs.length) || decide ((60 : Int) < c.q.deny.length)) = true from hl] at c0
    dsimp only [CfS.e] at c0
    refine Tri_of (N := Tryz.f6.ntmps) (c := bodyOf Tryz.f6) Tryz.func6 rfl rfl rfl rfl (fun w0 S0 => ?_)
    dsimp only [CfS.e]
    repeat' (first | refine SW ?_ | ((refine HO_g 2 rfl ?_); (refine HO_skip rfl rfl rfl rfl rdA ?_)) | refine SD ?_ | (refine HO_k 12 rfl ?_; refine HO_callq rfl rfl rfl rfl (c0) (fun _ _ => rfl) (trivial) rfl rfl sqA ?_) | (refine HO_k 12 rfl ?_; refine HO_callq rfl rfl rfl rfl (c1) (fun _ _ => rfl) (srcsA) rfl rfl sqA ?_) | exact HO_seg rfl rfl | refine S1 ?_ | (refine S2 ?_; intro _) | (refine S3 ?_; intro _ _) | (refine S4 ?_; intro _ _ _) | (refine HO_g 2 rfl ?_; (first | apply HO_and rfl rfl rfl rfl rfl rfl rfl rfl rfl | apply HO_or rfl rfl rfl rfl rfl rfl rfl rfl rfl)) | refine S5 ?_ | (intro hb; try replace hb := simB hb; try exact kill hb))
    ((first | apply HX_ret | apply HX_retn); (repeat (first | exact Res_nil | apply Res_tmp rfl | apply Res_ce rfl rfl rfl)); unfold RetQ; refine ⟨(), trivial, ?_, Keeps.nil⟩)
    rfl
  | false =>
    rw [show (decide ((60 : Int) < c.q.ifs.length) || decide ((60 : Int) < c.q.deny.length)) = false from hl] at c0
    have hL := small_L hw hl
    have c5 := rcheck19_t c hL
    dsimp only [CfS.ro, List.cons_append, List.nil_append] at c5
    cases hok : cfOk c.q with
    | false =>
      rw [hok] at c5
      dsimp only [CfS.e] at c0 c5
      refine Tri_of (N := Tryz.f6.ntmps) (c := bodyOf Tryz.f6) Tryz.func6 rfl rfl rfl rfl (fun w0 S0 => ?_)
      dsimp only [CfS.e]
      repeat' (first | refine SW ?_ | ((refine HO_g 2 rfl ?_); (refine HO_skip rfl rfl rfl rfl rdA ?_)) | refine SD ?_ | (refine HO_k 12 rfl ?_; refine HO_callq rfl rfl rfl rfl (c0) (fun _ _ => rfl) (trivial) rfl rfl sqA ?_) | (refine HO_k 12 rfl ?_; refine HO_callq rfl rfl rfl rfl (c1) (fun _ _ => rfl) (srcsA) rfl rfl sqA ?_) | (refine HO_k 12 rfl ?_; refine HO_callq rfl rfl rfl rfl (c5) (fun _ _ => rfl) (srcsA) rfl rfl sqA ?_) | exact HO_seg rfl rfl | refine S1 ?_ | (refine S2 ?_; intro _) | (refine S3 ?_; intro _ _) | (refine S4 ?_; intro _ _ _) | (refine HO_g 2 rfl ?_; (first | apply HO_and rfl rfl rfl rfl rfl rfl rfl rfl rfl | apply HO_or rfl rfl rfl rfl rfl rfl rfl rfl rfl)) | refine S5 ?_ | (intro hb; try replace hb := simB hb; try exact kill hb))
      ((first | apply HX_ret | apply HX_retn); (repeat (first | exact Res_nil | apply Res_tmp rfl | apply Res_ce rfl rfl rfl)); unfold RetQ; refine ⟨(), trivial, ?_, Keeps.nil⟩)
      rfl
    | true =>
      rw [hok] at c5
      by_cases h0 : at_ < 0
      · dsimp only [CfS.e] at c0 c5
        refine Tri_of (N := Tryz.f6.ntmps) (c := bodyOf Tryz.f6) Tryz.func6 rfl rfl rfl rfl (fun w0 S0 => ?_)
        dsimp only [CfS.e]
        repeat' (first | refine SW ?_ | ((refine HO_g 2 rfl ?_); (refine HO_skip rfl rfl rfl rfl rdA ?_)) | refine SD ?_ | (refine HO_k 12 rfl ?_; refine HO_callq rfl rfl rfl rfl (c0) (fun _ _ => rfl) (trivial) rfl rfl sqA ?_) | (refine HO_k 12 rfl ?_; refine HO_callq rfl rfl rfl rfl (c1) (fun _ _ => rfl) (srcsA) rfl rfl sqA ?_) | (refine HO_k 12 rfl ?_; refine HO_callq rfl rfl rfl rfl (c5) (fun _ _ => rfl) (srcsA) rfl rfl sqA ?_) | exact HO_seg rfl rfl | refine S1 ?_ | (refine S2 ?_; intro _) | (refine S3 ?_; intro _ _) | (refine S4 ?_; intro _ _ _) | (refine HO_g 2 rfl ?_; (first | apply HO_and rfl rfl rfl rfl rfl rfl rfl rfl rfl | apply HO_or rfl rfl rfl rfl rfl rfl rfl rfl rfl)) | refine S5 ?_ | (intro hb; try replace hb := simB hb; try exact kill hb))
        ((first | apply HX_ret | apply HX_retn); (repeat (first | exact Res_nil | apply Res_tmp rfl | apply Res_ce rfl rfl rfl)); unfold RetQ; refine ⟨(), trivial, ?_, Keeps.nil⟩)
        rfl
      by_cases h17 : 17 < at_
      · dsimp only [CfS.e] at c0 c5
        refine Tri_of (N := Tryz.f6.ntmps) (c := bodyOf Tryz.f6) Tryz.func6 rfl rfl rfl rfl (fun w0 S0 => ?_)
        dsimp only [CfS.e]
        repeat' (first | refine SW ?_ | ((refine HO_g 2 rfl ?_); (refine HO_skip rfl rfl rfl rfl rdA ?_)) | refine SD ?_ | (refine HO_k 12 rfl ?_; refine HO_callq rfl rfl rfl rfl (c0) (fun _ _ => rfl) (trivial) rfl rfl sqA ?_) | (refine HO_k 12 rfl ?_; refine HO_callq rfl rfl rfl rfl (c1) (fun _ _ => rfl) (srcsA) rfl rfl sqA ?_) | (refine HO_k 12 rfl ?_; refine HO_callq rfl rfl rfl rfl (c5) (fun _ _ => rfl) (srcsA) rfl rfl sqA ?_) | exact HO_seg rfl rfl | refine S1 ?_ | (refine S2 ?_; intro _) | (refine S3 ?_; intro _ _) | (refine S4 ?_; intro _ _ _) | (refine HO_g 2 rfl ?_; (first | apply HO_and rfl rfl rfl rfl rfl rfl rfl rfl rfl | apply HO_or rfl rfl rfl rfl rfl rfl rfl rfl rfl)) | refine S5 ?_ | (intro hb; try replace hb := simB hb; try exact kill hb))
        ((first | apply HX_ret | apply HX_retn); (repeat (first | exact Res_nil | apply Res_tmp rfl | apply Res_ce rfl rfl rfl)); unfold RetQ; refine ⟨(), trivial, ?_, Keeps.nil⟩)
        rfl
      obtain ⟨p, rfl⟩ : ∃ p : Nat, at_ = p := ⟨at_.toNat, by omega⟩
      have htl := text_all c.q hok
      have c8 := rshow19_t c hL hok
      obtain ⟨s1, s2⟩ := splB_txt _ (linesOf_ne c.q) (linesOf_low c.q)
      have hspl : splB 10 (txt (linesOf c.q)) = linesOf c.q ++ [[]] := by
        have hne : txt (linesOf c.q) ≠ [] := by intro e; rw [e] at s1; cases s1
        have e : txt (linesOf c.q) = (txt (linesOf c.q)).dropLast ++ [10] := by
          have := List.dropLast_concat_getLast hne
          rw [List.getLast?_eq_some_getLast hne] at s1
          injection s1 with s1
          rw [s1] at this
          exact this.symm
        conv => lhs; rw [e, splB_snoc, s2]
      have c9 : Tri Tryz.prog 26 [.string ⟨(txt (linesOf c.q)).toArray⟩, .int .u8 10] [] [] (fun _ : OA => True) (fun x => .slice x.1 (linesOf c.q ++ [[]]).length x.2) (fun x => [ownT x (linesOf c.q ++ [[]])]) := by
        have := rsplit19_t (txt (linesOf c.q)) 10 (by omega)
        rw [hspl] at this
        exact this
      have hpn := edit_parM c.q p (by omega) tw
      have hll := linesOf_len c.q
      have hlen : (linesOf c.q).length ≤ 138 := by
        have h1 := hl
        unfold largeB at h1
        rw [Bool.or_eq_false_iff, decide_eq_false_iff_not, decide_eq_false_iff_not] at h1
        omega
      have hln := line_len c.q hok
      have hbd : ∀ i, (txt (editL tw p ((linesOf c.q).take i))).length ≤ 20000 := fun i => by
        obtain ⟨e1, e2⟩ := edit_mem tw p ((linesOf c.q).take i)
        have h1 := txt_len (editL tw p ((linesOf c.q).take i)) 100 (fun x hx => hln x (List.mem_of_mem_take (e1 x hx)))
        have h2 : ((linesOf c.q).take i).length ≤ (linesOf c.q).length := List.length_take_le' _ _
        omega
      obtain ⟨S, hS⟩ : ∃ S, txt (linesOf c.q) = S := ⟨_, rfl⟩
      rw [hS] at c8 c9
      obtain ⟨L, hLL⟩ : ∃ L, linesOf c.q = L := ⟨_, rfl⟩
      rw [hLL] at c9 hpn hlen hln hbd
      have hbL := hbd L.length
      rw [List.take_length] at hbL
      have c7 := cparse_t m (txt (editL tw p L)) (by omega)
      simp only [parS_none hpn, hpn, Option.isSome_none, Bool.false_eq_true, if_false] at c7
      dsimp only [CfS.e, CfS.ro] at c0 c5 c7 c8
      refine Tri_of (N := Tryz.f6.ntmps) (c := bodyOf Tryz.f6) Tryz.func6 rfl rfl rfl rfl (fun w0 S0 => ?_)
      dsimp only [CfS.e]
      repeat' (first | refine SW ?_ | refine SD ?_ | (refine HO_k 12 rfl ?_; refine HO_callq rfl rfl rfl rfl (c0) (fun _ _ => rfl) (trivial) rfl rfl sqA ?_) | (refine HO_k 12 rfl ?_; refine HO_callq rfl rfl rfl rfl (c1) (fun _ _ => rfl) (srcsA) rfl rfl sqA ?_) | (refine HO_k 12 rfl ?_; refine HO_callq rfl rfl rfl rfl (c5) (fun _ _ => rfl) (srcsA) rfl rfl sqA ?_) | (refine HO_k 12 rfl ?_; refine HO_callq rfl rfl rfl rfl (c8) (fun _ _ => rfl) (srcsA) rfl rfl sqA ?_) | (refine HO_k 12 rfl ?_; refine HO_call rfl rfl rfl rfl (c9) rfl (trivial) rfl rfl soA ?_; intro ⟨lA, lc⟩ hx; dsimp only [List.cons_append, List.nil_append]) | exact HO_seg rfl rfl | refine S1 ?_ | (refine S2 ?_; intro _) | (refine S3 ?_; intro _ _) | (refine S4 ?_; intro _ _ _) | (refine HO_g 2 rfl ?_; (first | apply HO_and rfl rfl rfl rfl rfl rfl rfl rfl rfl | apply HO_or rfl rfl rfl rfl rfl rfl rfl rfl rfl)) | refine S5 ?_ | (intro hb; try replace hb := simB hb; try exact kill hb))
      refine HC_keeps (rw' := [ownT (lA, lc) (L ++ [[]])]) permA ?_
      refine HC_loop (α := Nat) (fun i => i ≤ L.length) (fun i => [(9, .int .i64 i), (8, .string ⟨(txt (editL tw p (L.take i))).toArray⟩), (7, .slice lA (L ++ [[]]).length lc), (2, .bool tw), (1, .int .i64 p)]) (fun i => [ownT (lA, lc) (L ++ [[]])]) (fun i => L.length - i) rfl 0 (Nat.zero_le _) ⟨rfl, by cases p <;> rfl, rfl, rfl, rfl, trivial⟩ rfl ?_
      intro i hi
      have hLlen : (L ++ [[]]).length = L.length + 1 := by simp
      rcases Nat.lt_or_ge i L.length with hlt | hge
      · obtain ⟨x, hx⟩ : ∃ x, L[i]? = some x := ⟨L[i], List.getElem?_eq_getElem hlt⟩
        have hxa : (L ++ [[]])[i]? = some x := by rw [List.getElem?_append_left hlt]; exact hx
        have hxl := hln x (List.mem_of_getElem? hx)
        have he := edit_take (t := tw) (p := p) hx
        have hbi := hbd i
        obtain ⟨lo, hlo⟩ : ∃ lo, txt (editL tw p (L.take i)) = lo := ⟨_, rfl⟩
        rw [hlo] at he hbi
        rw [hlo]
        by_cases hip : i = p
        · subst hip
          rw [if_pos rfl] at he
          cases tw with
          | true =>
            rw [if_pos rfl] at he
            have hfx : Value.string ⟨((((lo ++ x) ++ [10]) ++ x) ++ [10]).toArray⟩ = Value.string ⟨(txt (editL true i (L.take (i + 1)))).toArray⟩ := by rw [he]; simp
            repeat' (first | refine SW ?_ | (with_reducible refine HO_rw hfx ?_) | refine SD ?_ | (refine HO_k 0 rfl ?_; refine HO_cat rfl rfl rfl (by first | omega | (simp only [List.length_append, List.length_cons, List.length_nil]; omega)) rfl rfl rdA ?_) | exact HO_seg rfl rfl | refine S1 ?_ | (refine S2 ?_; intro _) | (refine S3 ?_; intro _ _) | (refine S4 ?_; intro _ _ _) | (refine HO_g 2 rfl ?_; (first | apply HO_and rfl rfl rfl rfl rfl rfl rfl rfl rfl | apply HO_or rfl rfl rfl rfl rfl rfl rfl rfl rfl)) | refine S5 ?_ | (intro hb; try replace hb := simB hb; try exact kill hb))
            exact HX_at (i + 1) ⟨hlt, by omega⟩ ⟨rfl, rfl, rfl, rfl, rfl, trivial⟩ rfl
          | false =>
            rw [if_neg (by decide), List.append_nil] at he
            repeat' (first | refine SW ?_ | refine SD ?_ | exact HO_seg rfl rfl | refine S1 ?_ | (refine S2 ?_; intro _) | (refine S3 ?_; intro _ _) | (refine S4 ?_; intro _ _ _) | (refine HO_g 2 rfl ?_; (first | apply HO_and rfl rfl rfl rfl rfl rfl rfl rfl rfl | apply HO_or rfl rfl rfl rfl rfl rfl rfl rfl rfl)) | refine S5 ?_ | (intro hb; try replace hb := simB hb; try exact kill hb))
            exact HX_at (i + 1) ⟨hlt, by omega⟩ ⟨rfl, by show some (Value.string ⟨lo.toArray⟩) = some _; rw [he], rfl, rfl, rfl, trivial⟩ rfl
        · rw [if_neg hip] at he
          have hipI : ¬ ((i : Nat) : Int) = p := by omega
          have hfx : Value.string ⟨((lo ++ x) ++ [10]).toArray⟩ = Value.string ⟨(txt (editL tw p (L.take (i + 1)))).toArray⟩ := by rw [he]; simp
          repeat' (first | refine SW ?_ | ((refine HO_g 2 rfl ?_); (refine HO_skip rfl rfl rfl rfl rdA ?_)) | (with_reducible refine HO_rw hfx ?_) | refine SD ?_ | (refine HO_k 0 rfl ?_; refine HO_cat rfl rfl rfl (by first | omega | (simp only [List.length_append, List.length_cons, List.length_nil]; omega)) rfl rfl rdA ?_) | exact HO_seg rfl rfl | refine S1 ?_ | (refine S2 ?_; intro _) | (refine S3 ?_; intro _ _) | (refine S4 ?_; intro _ _ _) | (refine HO_g 2 rfl ?_; (first | apply HO_and rfl rfl rfl rfl rfl rfl rfl rfl rfl | apply HO_or rfl rfl rfl rfl rfl rfl rfl rfl rfl)) | refine S5 ?_ | (intro hb; try replace hb := simB hb; try exact kill hb))
          exact HX_at (i + 1) ⟨hlt, by omega⟩ ⟨rfl, rfl, rfl, rfl, rfl, trivial⟩ rfl
      obtain rfl : i = L.length := by omega
      rw [List.take_length]
      repeat' (first | refine SW ?_ | refine SD ?_ | (refine HO_k 12 rfl ?_; refine HO_callq rfl rfl rfl rfl (c1) (fun _ _ => rfl) (srcsA) rfl rfl sqA ?_) | (refine HO_k 12 rfl ?_; refine HO_call rfl rfl rfl rfl (c7) rfl (srcsA) rfl rfl soA ?_; intro x hx2; dsimp only [List.cons_append, List.nil_append]) | exact HO_seg rfl rfl | refine S1 ?_ | (refine S2 ?_; intro _) | (refine S3 ?_; intro _ _) | (refine S4 ?_; intro _ _ _) | (refine HO_g 2 rfl ?_; (first | apply HO_and rfl rfl rfl rfl rfl rfl rfl rfl rfl | apply HO_or rfl rfl rfl rfl rfl rfl rfl rfl rfl)) | refine S5 ?_ | (intro hb; try replace hb := simB hb; try exact kill hb))
      ((first | apply HX_ret | apply HX_retn); (repeat (first | exact Res_nil | apply Res_tmp rfl | apply Res_ce rfl rfl rfl)); unfold RetQ; refine ⟨(), trivial, ?_, Keeps.nil⟩)
      rfl
end Go.Proofs.YtbhiojedmkcfoaaGreatDoor
