/- The law UpdatePuts walked: it returns true. -/
import Derived.Test.YtklkmdlnbddfaaaUpdLv
namespace Go.Proofs.Ytklkmdlnbddfaaa
set_option linter.unusedVariables false
set_option linter.unusedSimpArgs false
open Go.RowKit
attribute [local irreducible] HC HX HO Tri eP adr

/-- what is known of an update that is handed to a law -/
structure UpV (u : UpS) : Prop where
  g : NlsOk u.gone
  r : NlsOk u.routes
  n : 0 ≤ u.a.nxt ∧ u.a.nxt ≤ 4294967295
theorem UpV.w {u : UpS} (h : UpV u) (hb : bigU u = false) : UpW u := by
  unfold bigU at hb
  simp only [Bool.or_eq_false_iff, decide_eq_false_iff_not] at hb
  exact ⟨h.g, h.r, h.n, lim_of hb.2, by omega, by omega⟩
theorem UpV.small {u : UpS} (hb : bigU u = false) : u.gone.length ≤ 1100 ∧ u.routes.length ≤ 1100 := by
  unfold bigU at hb
  simp only [Bool.or_eq_false_iff, decide_eq_false_iff_not] at hb
  omega
theorem lim_same {a : AttS} {p : PA} (ha : a.pa = p) {c : AttS} (hc : c.pa = p) (h : Lim c) : Lim a := by
  rw [← hc] at ha
  have h1 := congrArg PA.path ha
  have h2 := congrArg PA.comms ha
  simp only [AttS.pa] at h1 h2
  have e1 := congrArg List.length h1
  rw [spl_len, spl_len] at e1
  refine ⟨by rw [e1]; exact h.p, by rw [h2]; exact h.c, fun s hs => ?_⟩
  have hm : (s.set, s.ns) ∈ spl a.path := List.mem_map.2 ⟨s, hs, rfl⟩
  rw [h1] at hm
  obtain ⟨s', hs', e⟩ := List.mem_map.1 hm
  have e2 : s'.ns = s.ns := congrArg Prod.snd e
  rw [← e2]
  exact h.s s' hs'
set_option maxHeartbeats 32000000 in
set_option maxRecDepth 100000 in
theorem uputs_t (u : UpS) (hv : UpV u) (four paths : Bool) : Tri Try.prog 8 [.agg u.e.toArray, .bool four, .bool paths] u.ro [] (fun _ : Unit => True) (fun _ => .bool true) (fun _ => []) := by
  have hla := rlarge7_t u
  cases hb : bigU u
  rotate_left
  · rw [hb] at hla
    refine Tri_of (N := Try.f8.ntmps) (c := bodyOf Try.f8) Try.func8 rfl rfl rfl rfl (fun w0 S0 => ?_)
    dsimp only [UpS.ro, UpS.e] at hla ⊢
    repeat' (first | refine SW ?_ | refine SD ?_ | (refine HO_k 12 rfl ?_; refine HO_callq rfl rfl rfl rfl (hla) (fun _ _ => rfl) (srcsA) rfl rfl sqA ?_) | (refine HO_k 12 rfl ?_; refine HO_callq rfl rfl rfl rfl (ulives_t) (fun _ _ => rfl) (trivial) rfl rfl sqA ?_) | exact HO_seg rfl rfl | refine S1 ?_ | (refine S2 ?_; intro _) | (refine S3 ?_; intro _ _) | (refine S4 ?_; intro _ _ _) | (refine HO_g 2 rfl ?_; (first | apply HO_and rfl rfl rfl rfl rfl rfl rfl rfl rfl | apply HO_or rfl rfl rfl rfl rfl rfl rfl rfl rfl)) | refine S5 ?_ | (intro hb; try replace hb := simB hb; try exact kill hb))
    ((first | apply HX_ret | apply HX_retn); (repeat (first | exact Res_nil | apply Res_tmp rfl | apply Res_ce rfl rfl rfl)); unfold RetQ; refine ⟨(), trivial, ?_, Keeps.nil⟩)
    rfl
  rw [hb] at hla
  have hu := hv.w hb
  have hck := rcheck7_t u hu four paths
  have huc := ucheck_t u hu four paths
  cases hk : upOk four paths u
  · rw [hk] at hck huc
    have hput := uput_bad u hu four paths hk
    refine Tri_of (N := Try.f8.ntmps) (c := bodyOf Try.f8) Try.func8 rfl rfl rfl rfl (fun w0 S0 => ?_)
    dsimp only [UpS.ro, UpS.e] at hla hck huc hput ⊢
    repeat' (first | refine SW ?_ | refine SD ?_ | (refine HO_k 12 rfl ?_; refine HO_callq rfl rfl rfl rfl (hla) (fun _ _ => rfl) (srcsA) rfl rfl sqA ?_) | (refine HO_k 12 rfl ?_; refine HO_callq rfl rfl rfl rfl (hput) (fun _ _ => rfl) (srcsA) rfl rfl sqA ?_) | (refine HO_k 12 rfl ?_; refine HO_callq rfl rfl rfl rfl (ulives_t) (fun _ _ => rfl) (trivial) rfl rfl sqA ?_) | (refine HO_k 12 rfl ?_; refine HO_callq rfl rfl rfl rfl (hck) (fun _ _ => rfl) (srcsA) rfl rfl sqA ?_) | (refine HO_k 12 rfl ?_; refine HO_callq rfl rfl rfl rfl (huc) (fun _ _ => rfl) (srcsA) rfl rfl sqA ?_) | exact HO_seg rfl rfl | refine S1 ?_ | (refine S2 ?_; intro _) | (refine S3 ?_; intro _ _) | (refine S4 ?_; intro _ _ _) | (refine HO_g 2 rfl ?_; (first | apply HO_and rfl rfl rfl rfl rfl rfl rfl rfl rfl | apply HO_or rfl rfl rfl rfl rfl rfl rfl rfl rfl)) | refine S5 ?_ | (intro hb; try replace hb := simB hb; try exact kill hb))
    ((first | apply HX_ret | apply HX_retn); (repeat (first | exact Res_nil | apply Res_tmp rfl | apply Res_ce rfl rfl rfl)); unfold RetQ; refine ⟨(), trivial, ?_, Keeps.nil⟩)
    rfl
  rw [hk] at hck huc
  have hput := uput_t u hu four paths hk
  have hget := fun A c => uget_put u hu four paths hk A c
  obtain ⟨h1, hle⟩ := ok_parts hk
  obtain ⟨p1, p2, p3, p4⟩ := pre_parts h1
  have hrb := rbody_t u hu four paths p2 p3 p4
  have hsm := fun (v : UpS) (h : v.gone = u.gone ∧ v.routes = u.routes ∧ v.a.pa = u.a.pa ∧ v.soft = false) => rusame_t u v (by rw [p1, h.2.2.2]) h.1.symm h.2.1.symm h.2.2.1.symm hu.l (lim_same h.2.2.1 rfl hu.l) hu.gl hu.rl
  obtain ⟨bs, hbs⟩ : ∃ bs, upB four paths u = bs := ⟨_, rfl⟩
  rw [hbs] at hput hle hrb
  simp only [hbs] at hget
  have hstr : (ByteArray.toList ⟨bs.toArray⟩ == ByteArray.toList ⟨bs.toArray⟩) = true := beq_self_eq_true _
  refine Tri_of (N := Try.f8.ntmps) (c := bodyOf Try.f8) Try.func8 rfl rfl rfl rfl (fun w0 S0 => ?_)
  dsimp only [UpS.ro, UpS.e] at hla hck huc hput hrb hsm ⊢
  repeat' (first | refine SW ?_ | refine SD ?_ | refine HC_lex rfl rfl (by decide +kernel) rfl rfl ?_ | (refine HO_k 7 rfl ?_; (first | (refine HO_holdOU 0 rfl rfl ?_; refine HO_b2sr (l := bs) 0 rfl rfl rfl rfl rfl rfl rfl rdA ?_) | (refine HO_holdOU 1 rfl rfl ?_; refine HO_b2sr (l := bs) 0 rfl rfl rfl rfl rfl rfl rfl rdA ?_) | (refine HO_holdOU 2 rfl rfl ?_; refine HO_b2sr (l := bs) 0 rfl rfl rfl rfl rfl rfl rfl rdA ?_) | (refine HO_holdOU 3 rfl rfl ?_; refine HO_b2sr (l := bs) 0 rfl rfl rfl rfl rfl rfl rfl rdA ?_) | (refine HO_holdOU 4 rfl rfl ?_; refine HO_b2sr (l := bs) 0 rfl rfl rfl rfl rfl rfl rfl rdA ?_) | (refine HO_holdOU 5 rfl rfl ?_; refine HO_b2sr (l := bs) 0 rfl rfl rfl rfl rfl rfl rfl rdA ?_) | (refine HO_holdOU 6 rfl rfl ?_; refine HO_b2sr (l := bs) 0 rfl rfl rfl rfl rfl rfl rfl rdA ?_) | (refine HO_holdOU 7 rfl rfl ?_; refine HO_b2sr (l := bs) 0 rfl rfl rfl rfl rfl rfl rfl rdA ?_) | (refine HO_holdOU 8 rfl rfl ?_; refine HO_b2sr (l := bs) 0 rfl rfl rfl rfl rfl rfl rfl rdA ?_) | (refine HO_holdOU 9 rfl rfl ?_; refine HO_b2sr (l := bs) 0 rfl rfl rfl rfl rfl rfl rfl rdA ?_) | (refine HO_holdOU 10 rfl rfl ?_; refine HO_b2sr (l := bs) 0 rfl rfl rfl rfl rfl rfl rfl rdA ?_) | (refine HO_holdOU 11 rfl rfl ?_; refine HO_b2sr (l := bs) 0 rfl rfl rfl rfl rfl rfl rfl rdA ?_) | (refine HO_holdOU 12 rfl rfl ?_; refine HO_b2sr (l := bs) 0 rfl rfl rfl rfl rfl rfl rfl rdA ?_) | (refine HO_holdOU 13 rfl rfl ?_; refine HO_b2sr (l := bs) 0 rfl rfl rfl rfl rfl rfl rfl rdA ?_) | (refine HO_holdOU 14 rfl rfl ?_; refine HO_b2sr (l := bs) 0 rfl rfl rfl rfl rfl rfl rfl rdA ?_) | (refine HO_holdOU 15 rfl rfl ?_; refine HO_b2sr (l := bs) 0 rfl rfl rfl rfl rfl rfl rfl rdA ?_) | (refine HO_holdOU 16 rfl rfl ?_; refine HO_b2sr (l := bs) 0 rfl rfl rfl rfl rfl rfl rfl rdA ?_) | (refine HO_holdOU 17 rfl rfl ?_; refine HO_b2sr (l := bs) 0 rfl rfl rfl rfl rfl rfl rfl rdA ?_) | (refine HO_holdOU 18 rfl rfl ?_; refine HO_b2sr (l := bs) 0 rfl rfl rfl rfl rfl rfl rfl rdA ?_) | (refine HO_holdOU 19 rfl rfl ?_; refine HO_b2sr (l := bs) 0 rfl rfl rfl rfl rfl rfl rfl rdA ?_) | (refine HO_holdOU 20 rfl rfl ?_; refine HO_b2sr (l := bs) 0 rfl rfl rfl rfl rfl rfl rfl rdA ?_) | (refine HO_holdOU 21 rfl rfl ?_; refine HO_b2sr (l := bs) 0 rfl rfl rfl rfl rfl rfl rfl rdA ?_) | (refine HO_holdOU 22 rfl rfl ?_; refine HO_b2sr (l := bs) 0 rfl rfl rfl rfl rfl rfl rfl rdA ?_) | (refine HO_holdOU 23 rfl rfl ?_; refine HO_b2sr (l := bs) 0 rfl rfl rfl rfl rfl rfl rfl rdA ?_))) | (with_reducible refine HO_rw (congrArg Value.bool hstr) ?_) | (refine HO_k 12 rfl ?_; refine HO_callq rfl rfl rfl rfl (hla) (fun _ _ => rfl) (srcsA) rfl rfl sqA ?_) | (refine HO_k 12 rfl ?_; refine HO_call rfl rfl rfl rfl (hput) rfl (srcsA) rfl rfl soA ?_; intro ⟨x1, c1⟩ g1; dsimp only [List.cons_append, List.nil_append]) | (refine HO_k 12 rfl ?_; refine HO_callq rfl rfl rfl rfl (ulives_t) (fun _ _ => rfl) (trivial) rfl rfl sqA ?_) | (refine HO_k 12 rfl ?_; refine HO_callq rfl rfl rfl rfl (hck) (fun _ _ => rfl) (srcsA) rfl rfl sqA ?_) | (refine HO_k 12 rfl ?_; refine HO_callq rfl rfl rfl rfl (huc) (fun _ _ => rfl) (srcsA) rfl rfl sqA ?_) | (refine HO_k 12 rfl ?_; refine HO_call rfl rfl rfl rfl (hget x1 c1) rfl (srcsA) rfl rfl soA ?_; intro v hvv; dsimp only [UpS.ro, UpS.e, ntV, List.cons_append, List.nil_append]) | (refine HO_k 12 rfl ?_; refine HO_call rfl rfl rfl rfl (hrb) rfl (srcsA) rfl rfl soA ?_; intro ⟨x2, c2⟩ g2; dsimp only [List.cons_append, List.nil_append]) | (refine HO_k 12 rfl ?_; refine HO_callq rfl rfl rfl rfl (hsm v hvv) (fun _ _ => rfl) (srcsB) rfl rfl sqA ?_) | exact HO_seg rfl rfl | refine S1 ?_ | (refine S2 ?_; intro _) | (refine S3 ?_; intro _ _) | (refine S4 ?_; intro _ _ _) | (refine HO_g 2 rfl ?_; (first | apply HO_and rfl rfl rfl rfl rfl rfl rfl rfl rfl | apply HO_or rfl rfl rfl rfl rfl rfl rfl rfl rfl)) | refine S5 ?_ | (intro hb; try replace hb := simB hb; try exact kill hb))
  ((first | apply HX_ret | apply HX_retn); (repeat (first | exact Res_nil | apply Res_tmp rfl | apply Res_ce rfl rfl rfl)); unfold RetQ; refine ⟨(), trivial, ?_, Keeps.nil⟩)
  rfl
end Go.Proofs.Ytklkmdlnbddfaaa
