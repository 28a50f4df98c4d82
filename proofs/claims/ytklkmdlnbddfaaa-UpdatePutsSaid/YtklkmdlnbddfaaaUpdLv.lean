/- What was put is got; the lives of the laws of updates. -/
import Derived.Test.YtklkmdlnbddfaaaUpd
namespace Go.Proofs.Ytklkmdlnbddfaaa
set_option linter.unusedVariables false
set_option linter.unusedSimpArgs false
open Go.RowKit
attribute [local irreducible] HC HX HO Tri eP adr

theorem sameB_eq {p q : PA} (h : sameB p q = true) : p = q := by
  unfold sameB at h
  simp only [Bool.and_eq_true, decide_eq_true_eq] at h
  obtain ⟨⟨⟨⟨⟨h1, h2⟩, h3⟩, h4⟩, h5⟩, h6⟩ := h
  cases p
  cases q
  simp_all
theorem ok_parts {four paths : Bool} {u : UpS} (h : upOk four paths u = true) : upPre four paths u = true ∧ (upB four paths u).length ≤ 4077 := by
  unfold upOk at h
  rw [Bool.and_eq_true, decide_eq_true_eq] at h
  exact h
theorem nlsB_len {paths : Bool} {l : List Nl} (h : allX paths l = true) : (nlsB paths l).length ≤ 9216 := by
  have h1 := nlsB_le paths l
  have h2 := (allX_spec h).2
  omega
theorem saidB_len {four : Bool} {u : UpS} (hu : UpW u) (h : saidOk four u = true) : (saidB four u).length ≤ 5000 := by
  have := saidC_le four u hu
  unfold saidC at this
  rw [if_pos h] at this
  exact this
/-- what was put is got -/
theorem uget_put (u : UpS) (hu : UpW u) (four paths : Bool) (h : upOk four paths u = true) (A : Option Addr) (c : Nat) :
    Tri Try.prog 34 [.slice A (upB four paths u).length c, .bool four, .bool paths] [arr bE 1 A (upB four paths u)] [] (fun x : UpS => x.gone = u.gone ∧ x.routes = u.routes ∧ x.a.pa = u.a.pa ∧ x.soft = false)
      (fun x => .tuple #[.agg x.e.toArray, ntV 0 0]) (fun x => x.ro) := by
  obtain ⟨h1, h2⟩ := ok_parts h
  obtain ⟨p1, p2, p3, p4⟩ := pre_parts h1
  have l1 := nlsB_len p2
  have l3 := saidB_len hu p4
  have hcut : cutU (upB four paths u) = some (nlsB paths u.gone, saidB four u, nlsB paths u.routes) := cutU_body _ _ _ (by omega) (by omega)
  have hg := getR_nlsB paths u.gone [] hu.g (allX_spec p2).1 (by simpa using (allX_spec p2).2)
  have hr := getR_nlsB paths u.routes [] hu.r (allX_spec p3).1 (by simpa using (allX_spec p3).2)
  rw [List.nil_append] at hg hr
  by_cases h0 : u.routes.length = 0
  · have e0 := List.eq_nil_of_length_eq_zero h0
    have hp : u.a.pa = pz := by
      unfold saidOk at p4
      rw [if_pos h0] at p4
      exact sameB_eq p4
    exact Tri_weak (uget_gone A c _ _ _ _ (by omega) four paths hcut u.gone u.routes hg e0 hr) fun x hx => ⟨x, ⟨hx.1, by rw [hx.2.1, e0], by rw [hx.2.2.1, hp]; rfl, hx.2.2.2⟩, rfl, Keeps.refl⟩
  · have hs4 : attOk four u.a = true := by unfold saidOk at p4; rw [if_neg h0] at p4; exact p4
    have es : saidB four u = putB (szF four) u.a.pa := by unfold saidB; rw [if_neg h0]
    have hok : OkP (szF four) u.a.pa := okP_of hu.n (by rw [← ok_pa]; exact hs4)
    exact uget_fine A c _ _ _ _ (by omega) four paths hcut u.gone u.routes hg hr (by omega) u.a.pa (by rw [es]; exact get_put (szF four) (szF_bd four).2 u.a.pa hok)

/-! ## the law's lives -/
def lN : Nl := ⟨0, 167772160, 8⟩
def lA : AttS := ⟨0, none, 0, [], 1, -1, 200, none, 0, []⟩
def lU (b : Nat) : UpS := ⟨some ⟨b, 0, none⟩, 1, [lN], some ⟨b, 0, none⟩, 1, [lN], lA, false⟩
theorem lN_ok : NlsOk [lN] := fun x hx => by
  rw [List.mem_singleton] at hx
  subst hx
  decide
theorem lU_w (b : Nat) : UpW (lU b) := ⟨lN_ok, lN_ok, by show (0 : Int) ≤ 1 ∧ (1 : Int) ≤ 4294967295; decide, ⟨by show 0 ≤ 1000; decide, by show 0 ≤ 1000; decide, fun s hs => by cases hs⟩, by show 1 ≤ 1000000; decide, by show 1 ≤ 1000000; decide⟩
theorem uz_w : UpW uz := ⟨fun x hx => (by cases hx), fun x hx => (by cases hx), by decide, ⟨by decide, by decide, fun s hs => (by cases hs)⟩, by decide, by decide⟩
theorem lU_ok (b : Nat) : upOk true false (lU b) = true := by
  have : upOk true false (lU b) = upOk true false (lU 0) := rfl
  rw [this]
  decide +kernel
def lB : List UInt8 := upB true false (lU 0)
theorem lU_B (b : Nat) : upB true false (lU b) = lB := rfl
theorem lput1_t (b : Nat) : Tri Try.prog 31 [.agg (lU b).e.toArray, .bool true, .bool false] (lU b).ro [] (fun x : OA => lB.length ≤ x.2) (fun x => .tuple #[.agg #[.int .i64 2, .slice x.1 lB.length x.2], .int .i64 0]) (fun x => [ownB x lB]) := by
  have := uput_t (lU b) (lU_w b) true false (lU_ok b)
  rw [lU_B] at this
  exact this
theorem lget1_t (b : Nat) (A : Option Addr) (c : Nat) : Tri Try.prog 34 [.slice A lB.length c, .bool true, .bool false] [arr bE 1 A lB] [] (fun x : UpS => x.gone = [lN] ∧ x.routes = [lN] ∧ x.a.pa = lA.pa ∧ x.soft = false)
      (fun x => .tuple #[.agg x.e.toArray, ntV 0 0]) (fun x => x.ro) := by
  have := uget_put (lU b) (lU_w b) true false (lU_ok b) A c
  rw [lU_B] at this
  exact this
theorem lput2_t : Tri Try.prog 31 [.agg uz.e.toArray, .bool true, .bool true] uz.ro [] (fun x : OA => 4 ≤ x.2) (fun x => .tuple #[.agg #[.int .i64 2, .slice x.1 4 x.2], .int .i64 0]) (fun x => [ownB x [0, 0, 0, 0]]) := by
  have := uput_t uz uz_w true true (by decide +kernel)
  rw [show upB true true uz = [0, 0, 0, 0] by decide +kernel] at this
  exact this
theorem lget2_t (b c : Nat) : Tri Try.prog 34 [.slice (some ⟨b, 0, none⟩) 2 c, .bool true, .bool true] [arr bE 1 (some ⟨b, 0, none⟩) [0, 1]] [] (fun _ : Unit => True) (fun _ => .tuple #[.agg uz.e.toArray, ntV 3 1]) (fun _ => []) :=
  uget_cut (some ⟨b, 0, none⟩) c [0, 1] (by decide) true true (by decide +kernel)
theorem lget3_t (b c : Nat) : Tri Try.prog 34 [.slice (some ⟨b, 0, none⟩) 6 c, .bool true, .bool false] [arr bE 1 (some ⟨b, 0, none⟩) [0, 0, 0, 0, 8, 10]] [] (fun x : UpS => x.gone = [lN] ∧ x.routes = [] ∧ x.a = az ∧ x.soft = true)
      (fun x => .tuple #[.agg x.e.toArray, ntV 0 0]) (fun x => x.ro) := by
  have h1 : getR false [] [8, 10] = some [lN] := by
    have := getR_nlsB false [lN] [] lN_ok (fun x hx => by rw [List.mem_singleton] at hx; subst hx; decide +kernel) (by decide)
    rw [show nlsB false [lN] = [8, 10] by decide +kernel] at this
    exact this
  exact uget_soft (some ⟨b, 0, none⟩) c [0, 0, 0, 0, 8, 10] [] [] [8, 10] (by decide) true false (by decide +kernel) [] [lN] rfl h1 (by decide) 2 (by decide) pz rfl
theorem lget4_t (b c : Nat) : Tri Try.prog 34 [.slice (some ⟨b, 0, none⟩) 5 c, .bool true, .bool false] [arr bE 1 (some ⟨b, 0, none⟩) [0, 1, 33, 0, 0]] [] (fun _ : Unit => True) (fun _ => .tuple #[.agg uz.e.toArray, ntV 3 10]) (fun _ => []) :=
  uget_nlri (some ⟨b, 0, none⟩) c [0, 1, 33, 0, 0] [33] [] [] (by decide) true false (by decide +kernel) [] (by kernel_rfl) rfl
theorem lA_ok : OkP 4 lA.pa := okP_of (by decide) (by decide +kernel)
theorem lsame1_t (b : Nat) (v : UpS) (h : v.gone = [lN] ∧ v.routes = [lN] ∧ v.a.pa = lA.pa ∧ v.soft = false) : Tri Try.prog 36 [.agg (lU b).e.toArray, .agg v.e.toArray] ((lU b).ro ++ v.ro) [] (fun _ : Unit => True) (fun _ => .bool true) (fun _ => []) :=
  rusame_t (lU b) v h.2.2.2.symm h.1.symm h.2.1.symm h.2.2.1.symm (lim_paU rfl lA_ok) (lim_paU h.2.2.1 lA_ok) (by show 1 ≤ 1000000; decide) (by show 1 ≤ 1000000; decide)
theorem lsame2_t (b : Nat) (v : UpS) (h : v.gone = [lN] ∧ v.routes = [lN] ∧ v.a.pa = lA.pa ∧ v.soft = false) : Tri Try.prog 74 [.agg (lU b).e.toArray, .agg v.e.toArray] ((lU b).ro ++ v.ro) [] (fun _ : Unit => True) (fun _ => .bool true) (fun _ => []) :=
  usame_t (lU b) v h.2.2.2.symm h.1.symm h.2.1.symm h.2.2.1.symm (lim_paU rfl lA_ok) (lim_paU h.2.2.1 lA_ok) (by show 1 ≤ 1000000; decide) (by show 1 ≤ 1000000; decide)
theorem lfit_t (b : Nat) : Tri Try.prog 42 [.slice (some ⟨b, 0, none⟩) 1 1, .agg lA.e.toArray, .bool true, .bool false] (arr Nl.e 3 (some ⟨b, 0, none⟩) [lN] :: lA.ro) [] (fun _ : Unit => True) (fun _ => .int .i64 1) (fun _ => []) := by
  have := fit_t (some ⟨b, 0, none⟩) 1 1 lN (by decide) [lN] rfl (by decide) false (by decide +kernel) lA true (by decide +kernel) (by decide)
  rw [show fitN (4073 - (putB (szF true) lA.pa).length) (nlB false lN).length 1 = 1 by decide +kernel] at this
  exact this
theorem lchk_t (v : UpS) (h : v.gone = [lN] ∧ v.routes = [] ∧ v.a = az ∧ v.soft = true) : Tri Try.prog 33 [.agg v.e.toArray, .bool true, .bool false] v.ro [] (fun _ : Unit => True) (fun _ => .int .i64 70) (fun _ => []) := by
  have hw : UpW v := ⟨by rw [h.1]; exact lN_ok, (by rw [h.2.1]; exact fun x hx => (by cases hx)), by rw [h.2.2.1]; decide, by rw [h.2.2.1]; exact ⟨by decide, by decide, fun s hs => (by cases hs)⟩, by rw [h.1]; decide, by rw [h.2.1]; decide⟩
  have := ucheck_t v hw true false
  rw [show upOk true false v = false by unfold upOk upPre; rw [h.2.2.2]; rfl] at this
  exact this
theorem srcsC {src l : List SL} (h : AllSrc src l := by repeat (first | exact trivial | refine AllSrc.free (fun w => arr_nil _ w) ?_ | refine AllSrc.free inn_nil ?_ | refine AllSrc.at_ 0 rfl ?_ | refine AllSrc.own 0 rfl rfl ?_ | refine AllSrc.at_ 1 rfl ?_ | refine AllSrc.own 1 rfl rfl ?_ | refine AllSrc.at_ 2 rfl ?_ | refine AllSrc.own 2 rfl rfl ?_ | refine AllSrc.at_ 3 rfl ?_ | refine AllSrc.own 3 rfl rfl ?_ | refine AllSrc.at_ 4 rfl ?_ | refine AllSrc.own 4 rfl rfl ?_ | refine AllSrc.at_ 5 rfl ?_ | refine AllSrc.own 5 rfl rfl ?_ | refine AllSrc.at_ 6 rfl ?_ | refine AllSrc.own 6 rfl rfl ?_ | refine AllSrc.at_ 7 rfl ?_ | refine AllSrc.own 7 rfl rfl ?_ | refine AllSrc.at_ 8 rfl ?_ | refine AllSrc.own 8 rfl rfl ?_ | refine AllSrc.at_ 9 rfl ?_ | refine AllSrc.own 9 rfl rfl ?_ | refine AllSrc.at_ 10 rfl ?_ | refine AllSrc.own 10 rfl rfl ?_ | refine AllSrc.at_ 11 rfl ?_ | refine AllSrc.own 11 rfl rfl ?_ | refine AllSrc.at_ 12 rfl ?_ | refine AllSrc.own 12 rfl rfl ?_ | refine AllSrc.at_ 13 rfl ?_ | refine AllSrc.own 13 rfl rfl ?_ | refine AllSrc.at_ 14 rfl ?_ | refine AllSrc.own 14 rfl rfl ?_ | refine AllSrc.at_ 15 rfl ?_ | refine AllSrc.own 15 rfl rfl ?_ | refine AllSrc.at_ 16 rfl ?_ | refine AllSrc.own 16 rfl rfl ?_ | refine AllSrc.at_ 17 rfl ?_ | refine AllSrc.own 17 rfl rfl ?_ | refine AllSrc.at_ 18 rfl ?_ | refine AllSrc.own 18 rfl rfl ?_ | refine AllSrc.at_ 19 rfl ?_ | refine AllSrc.own 19 rfl rfl ?_ | refine AllSrc.at_ 20 rfl ?_ | refine AllSrc.own 20 rfl rfl ?_ | refine AllSrc.at_ 21 rfl ?_ | refine AllSrc.own 21 rfl rfl ?_ | refine AllSrc.at_ 22 rfl ?_ | refine AllSrc.own 22 rfl rfl ?_ | refine AllSrc.at_ 23 rfl ?_ | refine AllSrc.own 23 rfl rfl ?_ | refine AllSrc.at_ 24 rfl ?_ | refine AllSrc.own 24 rfl rfl ?_ | refine AllSrc.at_ 25 rfl ?_ | refine AllSrc.own 25 rfl rfl ?_ | refine AllSrc.at_ 26 rfl ?_ | refine AllSrc.own 26 rfl rfl ?_ | refine AllSrc.at_ 27 rfl ?_ | refine AllSrc.own 27 rfl rfl ?_ | refine AllSrc.at_ 28 rfl ?_ | refine AllSrc.own 28 rfl rfl ?_ | refine AllSrc.at_ 29 rfl ?_ | refine AllSrc.own 29 rfl rfl ?_ | refine AllSrc.at_ 30 rfl ?_ | refine AllSrc.own 30 rfl rfl ?_ | refine AllSrc.at_ 31 rfl ?_ | refine AllSrc.own 31 rfl rfl ?_ | refine AllSrc.at_ 32 rfl ?_ | refine AllSrc.own 32 rfl rfl ?_ | refine AllSrc.at_ 33 rfl ?_ | refine AllSrc.own 33 rfl rfl ?_ | refine AllSrc.at_ 34 rfl ?_ | refine AllSrc.own 34 rfl rfl ?_ | refine AllSrc.at_ 35 rfl ?_ | refine AllSrc.own 35 rfl rfl ?_)) : AllSrc src l := h
set_option maxHeartbeats 64000000 in
set_option maxRecDepth 100000 in
theorem ulives_t : Tri Try.prog 30 [] [] [] (fun _ : Unit => True) (fun _ => .bool true) (fun _ => []) := by
  have hstr : (ByteArray.toList ⟨List.toArray [0, 0, 0, 0]⟩ == ByteArray.toList ⟨#[0, 0, 0, 0]⟩) = true := beq_self_eq_true _
  refine Tri_of (N := Try.f30.ntmps) (c := bodyOf Try.f30) Try.func30 rfl rfl rfl rfl (fun w0 S0 => ?_)
  repeat' (first | refine SW ?_ | refine SD ?_ | exact HO_seg rfl rfl | refine S1 ?_ | (refine S2 ?_; intro _) | (refine S3 ?_; intro _ _) | (refine S4 ?_; intro _ _ _) | (refine HO_g 2 rfl ?_; (first | apply HO_and rfl rfl rfl rfl rfl rfl rfl rfl rfl | apply HO_or rfl rfl rfl rfl rfl rfl rfl rfl rfl)) | refine S5 ?_ | (intro hb; try replace hb := simB hb; try exact kill hb))
  rename_i b1 b2
  repeat' (first | refine SW ?_ | refine SD ?_ | (refine HO_k 12 rfl ?_; refine HO_call rfl rfl rfl rfl (lput1_t b1) rfl (srcsB) rfl rfl soA ?_; intro ⟨x1, c1⟩ h1; dsimp only [List.cons_append, List.nil_append]) | (refine HO_k 12 rfl ?_; refine HO_call rfl rfl rfl rfl (lget1_t b1 x1 c1) rfl (srcsB) rfl rfl soA ?_; intro v hv; dsimp only [UpS.ro, UpS.e, ntV, List.cons_append, List.nil_append]) | (refine HO_k 12 rfl ?_; refine HO_call rfl rfl rfl rfl (lput2_t) rfl (srcsB) rfl rfl soA ?_; intro ⟨x2, c2⟩ h2; dsimp only [List.cons_append, List.nil_append]) | (refine HO_k 12 rfl ?_; refine HO_call rfl rfl rfl rfl (lget2_t _ _) rfl (srcsB) rfl rfl soA ?_; intro q2 hq2; dsimp only [List.cons_append, List.nil_append]) | (refine HO_k 12 rfl ?_; refine HO_call rfl rfl rfl rfl (lget3_t _ _) rfl (srcsB) rfl rfl soA ?_; intro ⟨g3, gc3, gn3, r3, rc3, rt3, a3, sf3⟩ hx3; dsimp only at hx3; obtain ⟨rfl, rfl, rfl, rfl⟩ := hx3; dsimp only [UpS.ro, UpS.e, ntV, List.cons_append, List.nil_append]) | (refine HO_k 12 rfl ?_; refine HO_call rfl rfl rfl rfl (lget4_t _ _) rfl (srcsB) rfl rfl soA ?_; intro q4 hq4; dsimp only [List.cons_append, List.nil_append]) | (refine HO_k 7 rfl ?_; (first | refine HO_b2sk (l := [0, 0, 0, 0]) 0 rfl rfl rfl rfl rfl rfl rfl rfl rdA ?_ | refine HO_b2sk (l := [0, 0, 0, 0]) 1 rfl rfl rfl rfl rfl rfl rfl rfl rdA ?_ | refine HO_b2sk (l := [0, 0, 0, 0]) 2 rfl rfl rfl rfl rfl rfl rfl rfl rdA ?_ | refine HO_b2sk (l := [0, 0, 0, 0]) 3 rfl rfl rfl rfl rfl rfl rfl rfl rdA ?_ | refine HO_b2sk (l := [0, 0, 0, 0]) 4 rfl rfl rfl rfl rfl rfl rfl rfl rdA ?_ | refine HO_b2sk (l := [0, 0, 0, 0]) 5 rfl rfl rfl rfl rfl rfl rfl rfl rdA ?_ | refine HO_b2sk (l := [0, 0, 0, 0]) 6 rfl rfl rfl rfl rfl rfl rfl rfl rdA ?_ | refine HO_b2sk (l := [0, 0, 0, 0]) 7 rfl rfl rfl rfl rfl rfl rfl rfl rdA ?_ | refine HO_b2sk (l := [0, 0, 0, 0]) 8 rfl rfl rfl rfl rfl rfl rfl rfl rdA ?_ | refine HO_b2sk (l := [0, 0, 0, 0]) 9 rfl rfl rfl rfl rfl rfl rfl rfl rdA ?_ | refine HO_b2sk (l := [0, 0, 0, 0]) 10 rfl rfl rfl rfl rfl rfl rfl rfl rdA ?_ | refine HO_b2sk (l := [0, 0, 0, 0]) 11 rfl rfl rfl rfl rfl rfl rfl rfl rdA ?_ | refine HO_b2sk (l := [0, 0, 0, 0]) 12 rfl rfl rfl rfl rfl rfl rfl rfl rdA ?_ | refine HO_b2sk (l := [0, 0, 0, 0]) 13 rfl rfl rfl rfl rfl rfl rfl rfl rdA ?_ | refine HO_b2sk (l := [0, 0, 0, 0]) 14 rfl rfl rfl rfl rfl rfl rfl rfl rdA ?_ | refine HO_b2sk (l := [0, 0, 0, 0]) 15 rfl rfl rfl rfl rfl rfl rfl rfl rdA ?_ | refine HO_b2sk (l := [0, 0, 0, 0]) 16 rfl rfl rfl rfl rfl rfl rfl rfl rdA ?_ | refine HO_b2sk (l := [0, 0, 0, 0]) 17 rfl rfl rfl rfl rfl rfl rfl rfl rdA ?_ | refine HO_b2sk (l := [0, 0, 0, 0]) 18 rfl rfl rfl rfl rfl rfl rfl rfl rdA ?_ | refine HO_b2sk (l := [0, 0, 0, 0]) 19 rfl rfl rfl rfl rfl rfl rfl rfl rdA ?_ | refine HO_b2sk (l := [0, 0, 0, 0]) 20 rfl rfl rfl rfl rfl rfl rfl rfl rdA ?_ | refine HO_b2sk (l := [0, 0, 0, 0]) 21 rfl rfl rfl rfl rfl rfl rfl rfl rdA ?_ | refine HO_b2sk (l := [0, 0, 0, 0]) 22 rfl rfl rfl rfl rfl rfl rfl rfl rdA ?_ | refine HO_b2sk (l := [0, 0, 0, 0]) 23 rfl rfl rfl rfl rfl rfl rfl rfl rdA ?_ | refine HO_b2sk (l := [0, 0, 0, 0]) 24 rfl rfl rfl rfl rfl rfl rfl rfl rdA ?_ | refine HO_b2sk (l := [0, 0, 0, 0]) 25 rfl rfl rfl rfl rfl rfl rfl rfl rdA ?_ | refine HO_b2sk (l := [0, 0, 0, 0]) 26 rfl rfl rfl rfl rfl rfl rfl rfl rdA ?_ | refine HO_b2sk (l := [0, 0, 0, 0]) 27 rfl rfl rfl rfl rfl rfl rfl rfl rdA ?_ | refine HO_b2sk (l := [0, 0, 0, 0]) 28 rfl rfl rfl rfl rfl rfl rfl rfl rdA ?_ | refine HO_b2sk (l := [0, 0, 0, 0]) 29 rfl rfl rfl rfl rfl rfl rfl rfl rdA ?_)) | (with_reducible refine HO_rw (congrArg Value.bool hstr) ?_) | (refine HO_k 12 rfl ?_; refine HO_callq rfl rfl rfl rfl (lsame1_t b1 v hv) (fun _ _ => rfl) (srcsC) rfl rfl sqA ?_) | (refine HO_k 12 rfl ?_; refine HO_callq rfl rfl rfl rfl (lsame2_t b1 v hv) (fun _ _ => rfl) (srcsC) rfl rfl sqA ?_) | (refine HO_k 12 rfl ?_; refine HO_callq rfl rfl rfl rfl (lfit_t b1) (fun _ _ => rfl) (srcsC) rfl rfl sqA ?_) | (refine HO_k 12 rfl ?_; refine HO_callq rfl rfl rfl rfl (lchk_t ⟨g3, gc3, [lN], r3, rc3, [], az, true⟩ ⟨rfl, rfl, rfl, rfl⟩) (fun _ _ => rfl) (srcsB) rfl rfl sqA ?_) | exact HO_seg rfl rfl | refine S1 ?_ | (refine S2 ?_; intro _) | (refine S3 ?_; intro _ _) | (refine S4 ?_; intro _ _ _) | (refine HO_g 2 rfl ?_; (first | apply HO_and rfl rfl rfl rfl rfl rfl rfl rfl rfl | apply HO_or rfl rfl rfl rfl rfl rfl rfl rfl rfl)) | refine S5 ?_ | (intro hb; try replace hb := simB hb; try exact kill hb))
  ((first | apply HX_ret | apply HX_retn); (repeat (first | exact Res_nil | apply Res_tmp rfl | apply Res_ce rfl rfl rfl)); unfold RetQ; refine ⟨(), trivial, ?_, Keeps.nil⟩)
  rfl
end Go.Proofs.Ytklkmdlnbddfaaa
