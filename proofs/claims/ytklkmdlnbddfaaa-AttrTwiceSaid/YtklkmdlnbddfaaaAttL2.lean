/- The law AttrLess walked: it returns true. -/
import Derived.Test.YtklkmdlnbddfaaaAttX
import Derived.Test.YtklkmdlnbddfaaaAttY
namespace Go.Proofs.Ytklkmdlnbddfaaa
set_option linter.unusedVariables false
set_option linter.unusedSimpArgs false
open Go.RowKit
attribute [local irreducible] HC HX HO Tri eP adr

theorem Tri_cap {P : Program} {g : Nat} {args : List Value} {ro rw : List SL} {φ : OA → Prop} {val : OA → Value} {l : List UInt8} (h : Tri P g args ro rw φ val (fun x => [ownB x l])) :
    Tri P g args ro rw (fun x => l.length ≤ x.2) val (fun x => [ownB x l]) := by
  unfold Tri at h ⊢
  exact fun w S hf => (h w S hf).mono fun e w' ⟨x, T, hx, he, hfx⟩ => ⟨x, T, own_cap ro.length (by rw [List.getElem?_append_right (Nat.le_refl _), Nat.sub_self]; rfl) hfx.roOk, he, hfx⟩
theorem attB_ge (f k : Nat) (d : List UInt8) : 3 + d.length ≤ (attB f k d).length := by
  unfold attB
  split <;> simp [be_length] <;> omega
theorem putB_ge (w : Nat) (p : PA) : 14 ≤ (putB w p).length := by
  unfold putB
  simp only [List.length_append]
  have h1 := attB_ge 64 1 [UInt8.ofNat p.org.toNat]
  have h2 := attB_ge 64 2 (pathB w p.path)
  have h3 := attB_ge 64 3 (be 4 p.nxt.toNat)
  rw [be_length] at h3
  simp only [List.length_cons, List.length_nil] at h1
  omega
theorem putB_le (w : Nat) (h4 : w ≤ 4) (p : PA) (h : OkP w p) : (putB w p).length ≤ 5000 := by
  have h1 := attB_len 64 1 [UInt8.ofNat p.org.toNat]
  have h2 := attB_len 64 2 (pathB w p.path)
  have h3 := attB_len 64 3 (be 4 p.nxt.toNat)
  have h2' := pathB_len w h4 p.path h.s
  have hl := h.l
  have hc := h.c
  have h5 : (medB p.med).length ≤ 8 := by
    unfold medB
    have := attB_len 128 4 (be 4 p.med.toNat)
    rw [be_length] at this
    split
    · exact this
    · simp
  have h6 : (prefB p.pref).length ≤ 8 := by
    unfold prefB
    have := attB_len 64 5 (be 4 p.pref.toNat)
    rw [be_length] at this
    split
    · exact this
    · simp
  have h7 : (commB p.comms).length ≤ 132 := by
    unfold commB
    have := attB_len 192 8 (nb 4 p.comms)
    rw [nb_length] at this
    split
    · omega
    · simp
  rw [be_length] at h3
  simp only [List.length_cons, List.length_nil] at h1
  unfold putB
  simp only [List.length_append]
  omega
theorem az_pa : az.pa = pz := rfl
set_option maxHeartbeats 16000000 in
set_option maxRecDepth 100000 in
theorem less_t (a : AttS) (four : Bool) (hn : 0 ≤ a.nxt ∧ a.nxt ≤ 4294967295) : Tri Try.prog 7 [.agg a.e.toArray, .bool four] a.ro [] (fun _ : Unit => True) (fun _ => .bool true) (fun _ => []) := by
  have hla := large_t a
  cases ha : largeB a
  rotate_left
  · rw [ha] at hla
    refine Tri_of (N := Try.f7.ntmps) (c := bodyOf Try.f7) Try.func7 rfl rfl rfl rfl (fun w0 S0 => ?_)
    dsimp only [AttS.ro]
    repeat' (first | refine SW ?_ | refine SD ?_ | (refine HO_k 12 rfl ?_; refine HO_callq rfl rfl rfl rfl (hla) (fun _ _ => rfl) (srcsA) rfl rfl sqA ?_) | (refine HO_k 12 rfl ?_; refine HO_callq rfl rfl rfl rfl (lives_t) (fun _ _ => rfl) (trivial) rfl rfl sqA ?_) | exact HO_seg rfl rfl | refine S1 ?_ | (refine S2 ?_; intro _) | (refine S3 ?_; intro _ _) | (refine S4 ?_; intro _ _ _) | (refine HO_g 2 rfl ?_; (first | apply HO_and rfl rfl rfl rfl rfl rfl rfl rfl rfl | apply HO_or rfl rfl rfl rfl rfl rfl rfl rfl rfl)) | refine S5 ?_ | (intro hb; try replace hb := simB hb; try exact kill hb))
    ((first | apply HX_ret | apply HX_retn); (repeat (first | exact Res_nil | apply Res_tmp rfl | apply Res_ce rfl rfl rfl)); unfold RetQ; refine ⟨(), trivial, ?_, Keeps.nil⟩)
    rfl
  rw [ha] at hla
  have la := lim_of ha
  have hck := rcheck_t a four (by have := la.p; omega) (by have := la.c; omega) (fun s hs => by have := la.s s hs; omega)
  cases hk : attOk four a
  · rw [hk] at hck
    refine Tri_of (N := Try.f7.ntmps) (c := bodyOf Try.f7) Try.func7 rfl rfl rfl rfl (fun w0 S0 => ?_)
    dsimp only [AttS.ro]
    repeat' (first | refine SW ?_ | refine SD ?_ | (refine HO_k 12 rfl ?_; refine HO_callq rfl rfl rfl rfl (hla) (fun _ _ => rfl) (srcsA) rfl rfl sqA ?_) | (refine HO_k 12 rfl ?_; refine HO_callq rfl rfl rfl rfl (hck) (fun _ _ => rfl) (srcsA) rfl rfl sqA ?_) | (refine HO_k 12 rfl ?_; refine HO_callq rfl rfl rfl rfl (lives_t) (fun _ _ => rfl) (trivial) rfl rfl sqA ?_) | exact HO_seg rfl rfl | refine S1 ?_ | (refine S2 ?_; intro _) | (refine S3 ?_; intro _ _) | (refine S4 ?_; intro _ _ _) | (refine HO_g 2 rfl ?_; (first | apply HO_and rfl rfl rfl rfl rfl rfl rfl rfl rfl | apply HO_or rfl rfl rfl rfl rfl rfl rfl rfl rfl)) | refine S5 ?_ | (intro hb; try replace hb := simB hb; try exact kill hb))
    ((first | apply HX_ret | apply HX_retn); (repeat (first | exact Res_nil | apply Res_tmp rfl | apply Res_ce rfl rfl rfl)); unfold RetQ; refine ⟨(), trivial, ?_, Keeps.nil⟩)
    rfl
  rw [hk] at hck
  have h4 := (szF_bd four).2
  have hok : OkP (szF four) a.pa := okP_of hn (by rw [← ok_pa]; exact hk)
  have hput := Tri_cap (aput_t a four hk hn)
  have hge := putB_ge (szF four) a.pa
  have hle := putB_le (szF four) h4 a.pa hok
  have hgl := get_less (szF four) h4 a.pa hok
  obtain ⟨bs, hbs⟩ : ∃ bs, putB (szF four) a.pa = bs := ⟨_, rfl⟩
  rw [hbs] at hput hge hle hgl
  have hdl : (bs.drop 4).length = bs.length - 4 := List.length_drop
  have hget := fun A c => aget_t four A c (bs.drop 4) (by omega)
  rw [hgl, hdl] at hget
  have hsm : ∀ (c : AttS), c.pa = pz → Tri Try.prog 20 [.agg c.e.toArray, .agg az.e.toArray] (c.ro ++ az.ro) [] (fun _ : Unit => True) (fun _ => .bool true) (fun _ => []) := fun c hc => by
    have hh := rsame_t c az (by
      have h1 := congrArg (fun p : PA => p.path.length) hc
      have h2 := congrArg (fun p : PA => p.comms.length) hc
      simp only [AttS.pa, spl_len, pz, List.length_nil] at h1 h2
      exact ⟨by omega, by omega, fun s hs => by rw [List.eq_nil_of_length_eq_zero h1] at hs; cases hs⟩) ⟨by decide, by decide, fun s hs => by cases hs⟩
    rw [hc, az_pa, sameB_refl] at hh
    exact hh
  refine Tri_of (N := Try.f7.ntmps) (c := bodyOf Try.f7) Try.func7 rfl rfl rfl rfl (fun w0 S0 => ?_)
  dsimp only [AttS.ro]
  repeat' (first | refine SW ?_ | refine SD ?_ | (refine HO_k 12 rfl ?_; refine HO_callq rfl rfl rfl rfl (hla) (fun _ _ => rfl) (srcsA) rfl rfl sqA ?_) | (refine HO_k 12 rfl ?_; refine HO_callq rfl rfl rfl rfl (hck) (fun _ _ => rfl) (srcsA) rfl rfl sqA ?_) | (refine HO_k 12 rfl ?_; refine HO_callq rfl rfl rfl rfl (lives_t) (fun _ _ => rfl) (trivial) rfl rfl sqA ?_) | (refine HO_k 12 rfl ?_; refine HO_call rfl rfl rfl rfl (hput) rfl (srcsA) rfl rfl soA ?_; intro ⟨x1, c1⟩ h1; dsimp only [List.cons_append, List.nil_append]) | (refine HO_k 12 rfl ?_; refine HO_call rfl rfl rfl rfl (hget (cutA x1 1 c1 4) (c1 - 4)) rfl (AllSrc.via 3 rfl (fun S w h => arr_drop c1 4 (fun hm => by dsimp only at h1; omega) S w (own_byte S w h)) trivial) rfl rfl soA ?_; intro a1 ha1; dsimp only [AttS.ro, List.cons_append, List.nil_append]) | (refine HO_k 12 rfl ?_; refine HO_callq rfl rfl rfl rfl (hsm a1 ha1) (fun _ _ => rfl) (srcsB) rfl rfl sqA ?_) | exact HO_seg rfl rfl | refine S1 ?_ | (refine S2 ?_; intro _) | (refine S3 ?_; intro _ _) | (refine S4 ?_; intro _ _ _) | (refine HO_g 2 rfl ?_; (first | apply HO_and rfl rfl rfl rfl rfl rfl rfl rfl rfl | apply HO_or rfl rfl rfl rfl rfl rfl rfl rfl rfl)) | refine S5 ?_ | (intro hb; try replace hb := simB hb; try exact kill hb))
  ((first | apply HX_ret | apply HX_retn); (repeat (first | exact Res_nil | apply Res_tmp rfl | apply Res_ce rfl rfl rfl)); unfold RetQ; refine ⟨(), trivial, ?_, Keeps.nil⟩)
  rfl
end Go.Proofs.Ytklkmdlnbddfaaa
