/- The law AttrGets walked: it returns true. -/
import Derived.Test.YtklkmdlnbddfaaaAttRD
import Derived.Test.YtklkmdlnbddfaaaAttX
import Derived.Test.YtklkmdlnbddfaaaAttY
namespace Go.Proofs.Ytklkmdlnbddfaaa
set_option linter.unusedVariables false
set_option linter.unusedSimpArgs false
open Go.RowKit
attribute [local irreducible] HC HX HO Tri eP adr

theorem getG_cases (w : Nat) (d : List UInt8) : getG w d = (pz, 3) ∨ getG w d = (pz, 2) ∨ ∃ p, getG w d = (p, 1) ∧ OkP w p := by
  have e := getG_eq w d
  cases h : allR w ⟨p0, 0⟩ d with
  | none =>
    rw [h] at e
    exact .inl e
  | some s =>
    rw [h] at e
    by_cases hm : mustB s.seen = true
    · have e2 : getG w d = (s.a, 1) := by rw [e]; exact if_pos hm
      exact .inr (.inr ⟨s.a, e2, get_ok e2⟩)
    · exact .inr (.inl (by rw [e]; exact if_neg hm))
theorem lim_pz {c : AttS} (hc : c.pa = pz) : Lim c := by
  have h1 := congrArg (fun p : PA => p.path.length) hc
  have h2 := congrArg (fun p : PA => p.comms.length) hc
  simp only [AttS.pa, spl_len, pz, List.length_nil] at h1 h2
  exact ⟨by omega, by omega, fun s hs => by rw [List.eq_nil_of_length_eq_zero h1] at hs; cases hs⟩
theorem same_pa {p : PA} (hl : ∀ c : AttS, c.pa = p → Lim c) (a c : AttS) (ha : a.pa = p) (hc : c.pa = p) :
    Tri Try.prog 20 [.agg a.e.toArray, .agg c.e.toArray] (a.ro ++ c.ro) [] (fun _ : Unit => True) (fun _ => .bool true) (fun _ => []) := by
  have := rsame_t a c (hl a ha) (hl c hc)
  rw [ha, hc, sameB_refl] at this
  exact this
set_option maxHeartbeats 16000000 in
set_option maxRecDepth 100000 in
theorem gets_t (four : Bool) (dA : Option Addr) (dc : Nat) (d : List UInt8) :
    Tri Try.prog 4 [.slice dA d.length dc, .bool four] [arr bE 1 dA d] [] (fun _ : Unit => True) (fun _ => .bool true) (fun _ => []) := by
  by_cases h3 : 3000 < d.length
  · refine Tri_of (N := Try.f4.ntmps) (c := bodyOf Try.f4) Try.func4 rfl rfl rfl rfl (fun w0 S0 => ?_)
    repeat' (first | refine SW ?_ | refine SD ?_ | (refine HO_k 12 rfl ?_; refine HO_callq rfl rfl rfl rfl (lives_t) (fun _ _ => rfl) (trivial) rfl rfl sqA ?_) | exact HO_seg rfl rfl | refine S1 ?_ | (refine S2 ?_; intro _) | (refine S3 ?_; intro _ _) | (refine S4 ?_; intro _ _ _) | (refine HO_g 2 rfl ?_; (first | apply HO_and rfl rfl rfl rfl rfl rfl rfl rfl rfl | apply HO_or rfl rfl rfl rfl rfl rfl rfl rfl rfl)) | refine S5 ?_ | (intro hb; try replace hb := simB hb; try exact kill hb))
    ((first | apply HX_ret | apply HX_retn); (repeat (first | exact Res_nil | apply Res_tmp rfl | apply Res_ce rfl rfl rfl)); unfold RetQ; refine ⟨(), trivial, ?_, Keeps.nil⟩)
    rfl
  have hag := aget_t four dA dc d (by omega)
  have hrg := rget5_t four dA dc d (by omega)
  rcases getG_cases (szF four) d with hg | hg | ⟨p, hg, hok⟩
  · rw [hg] at hag hrg
    have hsm := same_pa (p := pz) (fun c hc => lim_pz hc)
    refine Tri_of (N := Try.f4.ntmps) (c := bodyOf Try.f4) Try.func4 rfl rfl rfl rfl (fun w0 S0 => ?_)
    repeat' (first | refine SW ?_ | refine SD ?_ | (refine HO_k 12 rfl ?_; refine HO_callq rfl rfl rfl rfl (lives_t) (fun _ _ => rfl) (trivial) rfl rfl sqA ?_) | (refine HO_k 12 rfl ?_; refine HO_call rfl rfl rfl rfl (hag) rfl (srcsA) rfl rfl soA ?_; intro a1 ha1; dsimp only [AttS.ro, List.cons_append, List.nil_append]) | (refine HO_k 12 rfl ?_; refine HO_call rfl rfl rfl rfl (hrg) rfl (srcsA) rfl rfl soA ?_; intro a2 ha2; dsimp only [AttS.ro, List.cons_append, List.nil_append]) | (refine HO_k 12 rfl ?_; refine HO_callq rfl rfl rfl rfl (hsm a1 a2 ha1 ha2) (fun _ _ => rfl) (srcsB) rfl rfl sqA ?_) | exact HO_seg rfl rfl | refine S1 ?_ | (refine S2 ?_; intro _) | (refine S3 ?_; intro _ _) | (refine S4 ?_; intro _ _ _) | (refine HO_g 2 rfl ?_; (first | apply HO_and rfl rfl rfl rfl rfl rfl rfl rfl rfl | apply HO_or rfl rfl rfl rfl rfl rfl rfl rfl rfl)) | refine S5 ?_ | (intro hb; try replace hb := simB hb; try exact kill hb))
    ((first | apply HX_ret | apply HX_retn); (repeat (first | exact Res_nil | apply Res_tmp rfl | apply Res_ce rfl rfl rfl)); unfold RetQ; refine ⟨(), trivial, ?_, Keeps.nil⟩)
    rfl
  · rw [hg] at hag hrg
    have hsm := same_pa (p := pz) (fun c hc => lim_pz hc)
    refine Tri_of (N := Try.f4.ntmps) (c := bodyOf Try.f4) Try.func4 rfl rfl rfl rfl (fun w0 S0 => ?_)
    repeat' (first | refine SW ?_ | refine SD ?_ | (refine HO_k 12 rfl ?_; refine HO_callq rfl rfl rfl rfl (lives_t) (fun _ _ => rfl) (trivial) rfl rfl sqA ?_) | (refine HO_k 12 rfl ?_; refine HO_call rfl rfl rfl rfl (hag) rfl (srcsA) rfl rfl soA ?_; intro a1 ha1; dsimp only [AttS.ro, List.cons_append, List.nil_append]) | (refine HO_k 12 rfl ?_; refine HO_call rfl rfl rfl rfl (hrg) rfl (srcsA) rfl rfl soA ?_; intro a2 ha2; dsimp only [AttS.ro, List.cons_append, List.nil_append]) | (refine HO_k 12 rfl ?_; refine HO_callq rfl rfl rfl rfl (hsm a1 a2 ha1 ha2) (fun _ _ => rfl) (srcsB) rfl rfl sqA ?_) | exact HO_seg rfl rfl | refine S1 ?_ | (refine S2 ?_; intro _) | (refine S3 ?_; intro _ _) | (refine S4 ?_; intro _ _ _) | (refine HO_g 2 rfl ?_; (first | apply HO_and rfl rfl rfl rfl rfl rfl rfl rfl rfl | apply HO_or rfl rfl rfl rfl rfl rfl rfl rfl rfl)) | refine S5 ?_ | (intro hb; try replace hb := simB hb; try exact kill hb))
    ((first | apply HX_ret | apply HX_retn); (repeat (first | exact Res_nil | apply Res_tmp rfl | apply Res_ce rfl rfl rfl)); unfold RetQ; refine ⟨(), trivial, ?_, Keeps.nil⟩)
    rfl
  · rw [hg] at hag hrg
    have hsm := same_pa (p := p) (fun c hc => lim_pa hc hok)
    have hck : ∀ a : AttS, a.pa = p → Tri Try.prog 17 [.agg a.e.toArray, .bool four] a.ro [] (fun _ : Unit => True) (fun _ => .int .i64 0) (fun _ => []) := fun a ha => by
      have la := lim_pa ha hok
      have := acheck_t a four (by have := la.p; omega) (by have := la.c; omega) (fun s hs => by have := la.s s hs; omega)
      rw [ok_pa, ha, okP_to hok] at this
      exact this
    refine Tri_of (N := Try.f4.ntmps) (c := bodyOf Try.f4) Try.func4 rfl rfl rfl rfl (fun w0 S0 => ?_)
    repeat' (first | refine SW ?_ | refine SD ?_ | (refine HO_k 12 rfl ?_; refine HO_callq rfl rfl rfl rfl (lives_t) (fun _ _ => rfl) (trivial) rfl rfl sqA ?_) | (refine HO_k 12 rfl ?_; refine HO_call rfl rfl rfl rfl (hag) rfl (srcsA) rfl rfl soA ?_; intro a1 ha1; dsimp only [AttS.ro, List.cons_append, List.nil_append]) | (refine HO_k 12 rfl ?_; refine HO_call rfl rfl rfl rfl (hrg) rfl (srcsA) rfl rfl soA ?_; intro a2 ha2; dsimp only [AttS.ro, List.cons_append, List.nil_append]) | (refine HO_k 12 rfl ?_; refine HO_callq rfl rfl rfl rfl (hsm a1 a2 ha1 ha2) (fun _ _ => rfl) (srcsB) rfl rfl sqA ?_) | (refine HO_k 12 rfl ?_; refine HO_callq rfl rfl rfl rfl (hck a1 ha1) (fun _ _ => rfl) (srcsB) rfl rfl sqA ?_) | exact HO_seg rfl rfl | refine S1 ?_ | (refine S2 ?_; intro _) | (refine S3 ?_; intro _ _) | (refine S4 ?_; intro _ _ _) | (refine HO_g 2 rfl ?_; (first | apply HO_and rfl rfl rfl rfl rfl rfl rfl rfl rfl | apply HO_or rfl rfl rfl rfl rfl rfl rfl rfl rfl)) | refine S5 ?_ | (intro hb; try replace hb := simB hb; try exact kill hb))
    ((first | apply HX_ret | apply HX_retn); (repeat (first | exact Res_nil | apply Res_tmp rfl | apply Res_ce rfl rfl rfl)); unfold RetQ; refine ⟨(), trivial, ?_, Keeps.nil⟩)
    rfl
end Go.Proofs.Ytklkmdlnbddfaaa
