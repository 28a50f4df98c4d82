/- The law AttrPuts walked: it returns true. -/
import Derived.Test.YtklkmdlnbddfaaaAttL2
import Derived.Test.YtklkmdlnbddfaaaAttX
import Derived.Test.YtklkmdlnbddfaaaAttY
import Derived.Test.YtklkmdlnbddfaaaAttRA
namespace Go.Proofs.Ytklkmdlnbddfaaa
set_option linter.unusedVariables false
set_option linter.unusedSimpArgs false
open Go.RowKit
attribute [local irreducible] HC HX HO Tri eP adr

theorem HO_holdO {P : Program} {N : Nat} {w0 : World} {S0 : Foot} {ops : List Oper} {env : Env} {ro rw rw' : List SL} {K : Act → World → Prop} {ro0 : List SL} {l : List Nat} (k : Nat) {e : SL} (hk : rw[k]? = some e) (hr : eraseO rw k = some rw') (h : HO (.lex ro0) P N w0 S0 ops l env (e :: ro) rw' K) : HO (.lex ro0) P N w0 S0 ops l env ro rw K := by
  have e := eraseO_eq hr
  subst e
  exact HO_hold hk h
set_option maxHeartbeats 32000000 in
set_option maxRecDepth 100000 in
theorem puts_t (a : AttS) (four : Bool) (hn : 0 ≤ a.nxt ∧ a.nxt ≤ 4294967295) : Tri Try.prog 3 [.agg a.e.toArray, .bool four] a.ro [] (fun _ : Unit => True) (fun _ => .bool true) (fun _ => []) := by
  have hla := large_t a
  cases ha : largeB a
  rotate_left
  · rw [ha] at hla
    refine Tri_of (N := Try.f3.ntmps) (c := bodyOf Try.f3) Try.func3 rfl rfl rfl rfl (fun w0 S0 => ?_)
    dsimp only [AttS.ro]
    repeat' (first | refine SW ?_ | refine SD ?_ | (refine HO_k 12 rfl ?_; refine HO_callq rfl rfl rfl rfl (hla) (fun _ _ => rfl) (srcsA) rfl rfl sqA ?_) | (refine HO_k 12 rfl ?_; refine HO_callq rfl rfl rfl rfl (lives_t) (fun _ _ => rfl) (trivial) rfl rfl sqA ?_) | exact HO_seg rfl rfl | refine S1 ?_ | (refine S2 ?_; intro _) | (refine S3 ?_; intro _ _) | (refine S4 ?_; intro _ _ _) | (refine HO_g 2 rfl ?_; (first | apply HO_and rfl rfl rfl rfl rfl rfl rfl rfl rfl | apply HO_or rfl rfl rfl rfl rfl rfl rfl rfl rfl)) | refine S5 ?_ | (intro hb; try replace hb := simB hb; try exact kill hb))
    ((first | apply HX_ret | apply HX_retn); (repeat (first | exact Res_nil | apply Res_tmp rfl | apply Res_ce rfl rfl rfl)); unfold RetQ; refine ⟨(), trivial, ?_, Keeps.nil⟩)
    rfl
  rw [ha] at hla
  have la := lim_of ha
  have h1 : a.path.length ≤ 1000000 := by have := la.p; omega
  have h2 : a.comms.length ≤ 1000000 := by have := la.c; omega
  have h3 : ∀ s ∈ a.path, s.ns.length ≤ 1000000 := fun s hs => by have := la.s s hs; omega
  have hck := rcheck_t a four h1 h2 h3
  have hac := acheck_t a four h1 h2 h3
  cases hk : attOk four a
  · rw [hk] at hck hac
    have hput := aput_bad a four hk h1 h2 h3
    refine Tri_of (N := Try.f3.ntmps) (c := bodyOf Try.f3) Try.func3 rfl rfl rfl rfl (fun w0 S0 => ?_)
    dsimp only [AttS.ro]
    repeat' (first | refine SW ?_ | refine SD ?_ | (refine HO_k 12 rfl ?_; refine HO_callq rfl rfl rfl rfl (hla) (fun _ _ => rfl) (srcsA) rfl rfl sqA ?_) | (refine HO_k 12 rfl ?_; refine HO_callq rfl rfl rfl rfl (hck) (fun _ _ => rfl) (srcsA) rfl rfl sqA ?_) | (refine HO_k 12 rfl ?_; refine HO_callq rfl rfl rfl rfl (hac) (fun _ _ => rfl) (srcsA) rfl rfl sqA ?_) | (refine HO_k 12 rfl ?_; refine HO_callq rfl rfl rfl rfl (lives_t) (fun _ _ => rfl) (trivial) rfl rfl sqA ?_) | (refine HO_k 12 rfl ?_; refine HO_callq rfl rfl rfl rfl (hput) (fun _ _ => rfl) (srcsA) rfl rfl sqA ?_) | exact HO_seg rfl rfl | refine S1 ?_ | (refine S2 ?_; intro _) | (refine S3 ?_; intro _ _) | (refine S4 ?_; intro _ _ _) | (refine HO_g 2 rfl ?_; (first | apply HO_and rfl rfl rfl rfl rfl rfl rfl rfl rfl | apply HO_or rfl rfl rfl rfl rfl rfl rfl rfl rfl)) | refine S5 ?_ | (intro hb; try replace hb := simB hb; try exact kill hb))
    ((first | apply HX_ret | apply HX_retn); (repeat (first | exact Res_nil | apply Res_tmp rfl | apply Res_ce rfl rfl rfl)); unfold RetQ; refine ⟨(), trivial, ?_, Keeps.nil⟩)
    rfl
  rw [hk] at hck hac
  have h4 := (szF_bd four).2
  have hok : OkP (szF four) a.pa := okP_of hn (by rw [← ok_pa]; exact hk)
  have hput := aput_t a four hk hn
  have hrp := rput5_t a four hk hn
  have hle := putB_le (szF four) h4 a.pa hok
  have hgp := get_put (szF four) h4 a.pa hok
  obtain ⟨bs, hbs⟩ : ∃ bs, putB (szF four) a.pa = bs := ⟨_, rfl⟩
  rw [hbs] at hput hle hgp hrp
  have hget := fun A c => aget_t four A c bs (by omega)
  rw [hgp] at hget
  have hsm := fun (c : AttS) (hc : c.pa = a.pa) => rsame_t a c la (lim_pa hc hok)
  have hsm : ∀ (c : AttS), c.pa = a.pa → Tri Try.prog 20 [.agg a.e.toArray, .agg c.e.toArray] (a.ro ++ c.ro) [] (fun _ : Unit => True) (fun _ => .bool true) (fun _ => []) := fun c hc => by
    have := hsm c hc
    rw [hc, sameB_refl] at this
    exact this
  have hstr : (ByteArray.toList ⟨bs.toArray⟩ == ByteArray.toList ⟨bs.toArray⟩) = true := beq_self_eq_true _
  refine Tri_of (N := Try.f3.ntmps) (c := bodyOf Try.f3) Try.func3 rfl rfl rfl rfl (fun w0 S0 => ?_)
  dsimp only [AttS.ro]
  repeat' (first | refine SW ?_ | refine SD ?_ | refine HC_lex rfl rfl (by decide +kernel) rfl rfl ?_ | (refine HO_k 7 rfl ?_; (first | (refine HO_holdO 0 rfl rfl ?_; refine HO_b2sr (l := bs) 0 rfl rfl rfl rfl rfl rfl rfl rdA ?_) | (refine HO_holdO 1 rfl rfl ?_; refine HO_b2sr (l := bs) 0 rfl rfl rfl rfl rfl rfl rfl rdA ?_) | (refine HO_holdO 2 rfl rfl ?_; refine HO_b2sr (l := bs) 0 rfl rfl rfl rfl rfl rfl rfl rdA ?_) | (refine HO_holdO 3 rfl rfl ?_; refine HO_b2sr (l := bs) 0 rfl rfl rfl rfl rfl rfl rfl rdA ?_) | (refine HO_holdO 4 rfl rfl ?_; refine HO_b2sr (l := bs) 0 rfl rfl rfl rfl rfl rfl rfl rdA ?_) | (refine HO_holdO 5 rfl rfl ?_; refine HO_b2sr (l := bs) 0 rfl rfl rfl rfl rfl rfl rfl rdA ?_) | (refine HO_holdO 6 rfl rfl ?_; refine HO_b2sr (l := bs) 0 rfl rfl rfl rfl rfl rfl rfl rdA ?_) | (refine HO_holdO 7 rfl rfl ?_; refine HO_b2sr (l := bs) 0 rfl rfl rfl rfl rfl rfl rfl rdA ?_) | (refine HO_holdO 8 rfl rfl ?_; refine HO_b2sr (l := bs) 0 rfl rfl rfl rfl rfl rfl rfl rdA ?_) | (refine HO_holdO 9 rfl rfl ?_; refine HO_b2sr (l := bs) 0 rfl rfl rfl rfl rfl rfl rfl rdA ?_) | (refine HO_holdO 10 rfl rfl ?_; refine HO_b2sr (l := bs) 0 rfl rfl rfl rfl rfl rfl rfl rdA ?_) | (refine HO_holdO 11 rfl rfl ?_; refine HO_b2sr (l := bs) 0 rfl rfl rfl rfl rfl rfl rfl rdA ?_) | (refine HO_holdO 12 rfl rfl ?_; refine HO_b2sr (l := bs) 0 rfl rfl rfl rfl rfl rfl rfl rdA ?_) | (refine HO_holdO 13 rfl rfl ?_; refine HO_b2sr (l := bs) 0 rfl rfl rfl rfl rfl rfl rfl rdA ?_))) | (with_reducible refine HO_rw (congrArg Value.bool hstr) ?_) | (refine HO_k 12 rfl ?_; refine HO_callq rfl rfl rfl rfl (hla) (fun _ _ => rfl) (srcsA) rfl rfl sqA ?_) | (refine HO_k 12 rfl ?_; refine HO_callq rfl rfl rfl rfl (hck) (fun _ _ => rfl) (srcsA) rfl rfl sqA ?_) | (refine HO_k 12 rfl ?_; refine HO_callq rfl rfl rfl rfl (hac) (fun _ _ => rfl) (srcsA) rfl rfl sqA ?_) | (refine HO_k 12 rfl ?_; refine HO_callq rfl rfl rfl rfl (lives_t) (fun _ _ => rfl) (trivial) rfl rfl sqA ?_) | (refine HO_k 12 rfl ?_; refine HO_call rfl rfl rfl rfl (hput) rfl (srcsA) rfl rfl soA ?_; intro ⟨x1, c1⟩ g1; dsimp only [List.cons_append, List.nil_append]) | (refine HO_k 12 rfl ?_; refine HO_call rfl rfl rfl rfl (hget x1 c1) rfl (srcsA) rfl rfl soA ?_; intro a1 ha1; dsimp only [AttS.ro, List.cons_append, List.nil_append]) | (refine HO_k 12 rfl ?_; refine HO_call rfl rfl rfl rfl (hrp) rfl (srcsA) rfl rfl soA ?_; intro ⟨x2, c2⟩ g2; dsimp only [List.cons_append, List.nil_append]) | (refine HO_k 12 rfl ?_; refine HO_callq rfl rfl rfl rfl (hsm a1 ha1) (fun _ _ => rfl) (srcsB) rfl rfl sqA ?_) | exact HO_seg rfl rfl | refine S1 ?_ | (refine S2 ?_; intro _) | (refine S3 ?_; intro _ _) | (refine S4 ?_; intro _ _ _) | (refine HO_g 2 rfl ?_; (first | apply HO_and rfl rfl rfl rfl rfl rfl rfl rfl rfl | apply HO_or rfl rfl rfl rfl rfl rfl rfl rfl rfl)) | refine S5 ?_ | (intro hb; try replace hb := simB hb; try exact kill hb))
  ((first | apply HX_ret | apply HX_retn); (repeat (first | exact Res_nil | apply Res_tmp rfl | apply Res_ce rfl rfl rfl)); unfold RetQ; refine ⟨(), trivial, ?_, Keeps.nil⟩)
  rfl
end Go.Proofs.Ytklkmdlnbddfaaa
