/- The law AttrTwice walked: it returns true. -/
import Derived.Test.YtklkmdlnbddfaaaAttL2
import Derived.Test.YtklkmdlnbddfaaaAttX
import Derived.Test.YtklkmdlnbddfaaaAttY
import Derived.Test.YtklkmdlnbddfaaaAttRA
namespace Go.Proofs.Ytklkmdlnbddfaaa
set_option linter.unusedVariables false
set_option linter.unusedSimpArgs false
open Go.RowKit
attribute [local irreducible] HC HX HO Tri eP adr

set_option maxHeartbeats 32000000 in
set_option maxRecDepth 100000 in
theorem twice_t (a c : AttS) (kind : Int) (dA : Option Addr) (dc : Nat) (data : List UInt8) (four : Bool) (hna : 0 ≤ a.nxt ∧ a.nxt ≤ 4294967295) (hnc : 0 ≤ c.nxt ∧ c.nxt ≤ 4294967295) :
    Tri Try.prog 6 [.agg a.e.toArray, .agg c.e.toArray, .int .i64 kind, .slice dA data.length dc, .bool four] (a.ro ++ (c.ro ++ [arr bE 1 dA data])) [] (fun _ : Unit => True) (fun _ => .bool true) (fun _ => []) := by
  have hla := large_t a
  have hlc := large_t c
  cases ha : largeB a
  rotate_left
  · rw [ha] at hla
    refine Tri_of (N := Try.f6.ntmps) (c := bodyOf Try.f6) Try.func6 rfl rfl rfl rfl (fun w0 S0 => ?_)
    dsimp only [AttS.ro, List.cons_append, List.nil_append]
    repeat' (first | refine SW ?_ | refine SD ?_ | (refine HO_k 12 rfl ?_; refine HO_callq rfl rfl rfl rfl (hla) (fun _ _ => rfl) (srcsA) rfl rfl sqA ?_) | (refine HO_k 12 rfl ?_; refine HO_callq rfl rfl rfl rfl (lives_t) (fun _ _ => rfl) (trivial) rfl rfl sqA ?_) | exact HO_seg rfl rfl | refine S1 ?_ | (refine S2 ?_; intro _) | (refine S3 ?_; intro _ _) | (refine S4 ?_; intro _ _ _) | (refine HO_g 2 rfl ?_; (first | apply HO_and rfl rfl rfl rfl rfl rfl rfl rfl rfl | apply HO_or rfl rfl rfl rfl rfl rfl rfl rfl rfl)) | refine S5 ?_ | (intro hb; try replace hb := simB hb; try exact kill hb))
    ((first | apply HX_ret | apply HX_retn); (repeat (first | exact Res_nil | apply Res_tmp rfl | apply Res_ce rfl rfl rfl)); unfold RetQ; refine ⟨(), trivial, ?_, Keeps.nil⟩)
    rfl
  rw [ha] at hla
  cases hc : largeB c
  rotate_left
  · rw [hc] at hlc
    refine Tri_of (N := Try.f6.ntmps) (c := bodyOf Try.f6) Try.func6 rfl rfl rfl rfl (fun w0 S0 => ?_)
    dsimp only [AttS.ro, List.cons_append, List.nil_append]
    repeat' (first | refine SW ?_ | refine SD ?_ | (refine HO_k 12 rfl ?_; refine HO_callq rfl rfl rfl rfl (hla) (fun _ _ => rfl) (srcsA) rfl rfl sqA ?_) | (refine HO_k 12 rfl ?_; refine HO_callq rfl rfl rfl rfl (hlc) (fun _ _ => rfl) (srcsA) rfl rfl sqA ?_) | (refine HO_k 12 rfl ?_; refine HO_callq rfl rfl rfl rfl (lives_t) (fun _ _ => rfl) (trivial) rfl rfl sqA ?_) | exact HO_seg rfl rfl | refine S1 ?_ | (refine S2 ?_; intro _) | (refine S3 ?_; intro _ _) | (refine S4 ?_; intro _ _ _) | (refine HO_g 2 rfl ?_; (first | apply HO_and rfl rfl rfl rfl rfl rfl rfl rfl rfl | apply HO_or rfl rfl rfl rfl rfl rfl rfl rfl rfl)) | refine S5 ?_ | (intro hb; try replace hb := simB hb; try exact kill hb))
    ((first | apply HX_ret | apply HX_retn); (repeat (first | exact Res_nil | apply Res_tmp rfl | apply Res_ce rfl rfl rfl)); unfold RetQ; refine ⟨(), trivial, ?_, Keeps.nil⟩)
    rfl
  rw [hc] at hlc
  have la := lim_of ha
  have lc := lim_of hc
  have hka := rcheck_t a four (by have := la.p; omega) (by have := la.c; omega) (fun s hs => by have := la.s s hs; omega)
  have hkc := rcheck_t c four (by have := lc.p; omega) (by have := lc.c; omega) (fun s hs => by have := lc.s s hs; omega)
  by_cases hX : attOk four a = true ∧ attOk four c = true ∧ 9 ≤ kind ∧ kind ≤ 255 ∧ data.length ≤ 255 ∧ 0 ≤ a.med ∧ 0 ≤ a.pref ∧ 0 < a.comms.length
  rotate_left
  · refine Tri_of (N := Try.f6.ntmps) (c := bodyOf Try.f6) Try.func6 rfl rfl rfl rfl (fun w0 S0 => ?_)
    dsimp only [AttS.ro, AttS.e, List.cons_append, List.nil_append]
    repeat' (first | refine SW ?_ | (refine HO_k 12 rfl ?_; refine HO_callq rfl rfl rfl rfl (hla) (fun _ _ => rfl) (srcsA) rfl rfl sqA ?_) | (refine HO_k 12 rfl ?_; refine HO_callq rfl rfl rfl rfl (hlc) (fun _ _ => rfl) (srcsA) rfl rfl sqA ?_) | (refine HO_k 12 rfl ?_; refine HO_callq rfl rfl rfl rfl (hka) (fun _ _ => rfl) (srcsA) rfl rfl sqA ?_) | (refine HO_k 12 rfl ?_; refine HO_callq rfl rfl rfl rfl (hkc) (fun _ _ => rfl) (srcsA) rfl rfl sqA ?_) | (refine HO_k 12 rfl ?_; refine HO_callq rfl rfl rfl rfl (lives_t) (fun _ _ => rfl) (trivial) rfl rfl sqA ?_) | (refine HC_cond rfl rfl (fun hb => ?_) (fun hb => by exfalso; simp only [Bool.or_eq_false_iff, decide_eq_false_iff_not, Bool.not_eq_false', Bool.false_or] at hb; exact hX ⟨by simp [hb], by simp [hb], by omega, by omega, by omega, by omega, by omega, by omega⟩)) | exact HO_seg rfl rfl | refine S1 ?_ | (refine S2 ?_; intro _) | (refine S3 ?_; intro _ _) | (refine S4 ?_; intro _ _ _) | (refine HO_g 2 rfl ?_; (first | apply HO_and rfl rfl rfl rfl rfl rfl rfl rfl rfl | apply HO_or rfl rfl rfl rfl rfl rfl rfl rfl rfl)) | refine S5 ?_ | (intro hb; try replace hb := simB hb; try exact kill hb))
    ((first | apply HX_ret | apply HX_retn); (repeat (first | exact Res_nil | apply Res_tmp rfl | apply Res_ce rfl rfl rfl)); unfold RetQ; refine ⟨(), trivial, ?_, Keeps.nil⟩)
    rfl
  obtain ⟨k1, k2, b1, b2, b3, b4, b5, b6⟩ := hX
  rw [k1] at hka
  rw [k2] at hkc
  obtain ⟨kn, rfl⟩ : ∃ n : Nat, kind = n := ⟨kind.toNat, by omega⟩
  have h4 := (szF_bd four).2
  have oka : OkP (szF four) a.pa := okP_of hna (by rw [← ok_pa]; exact k1)
  have okc : OkP (szF four) c.pa := okP_of hnc (by rw [← ok_pa]; exact k2)
  have hpa := rput5_t a four k1 hna
  have hpc := rput5_t c four k2 hnc
  have hlea := putB_le (szF four) h4 a.pa oka
  have hlec := putB_le (szF four) h4 c.pa okc
  have hgt := get_twice (szF four) h4 a.pa c.pa oka okc b4 b5 b6 kn ⟨by omega, by omega⟩ data (by omega)
  obtain ⟨pa, epa⟩ : ∃ bs, putB (szF four) a.pa = bs := ⟨_, rfl⟩
  obtain ⟨pc, epc⟩ : ∃ bs, putB (szF four) c.pa = bs := ⟨_, rfl⟩
  rw [epa] at hpa hlea hgt
  rw [epc] at hpc hlec hgt
  have eat : attB 192 kn data = 192 :: UInt8.ofNat kn :: (be 1 data.length ++ data) := by unfold attB; rw [if_neg (by omega)]; rfl
  have e1 : be 1 data.length = [UInt8.ofNat data.length] := by simp [be]
  have e2 : ((UInt8.ofNat data.length).toNat : Int) = data.length := by simp; omega
  have e3 : ((UInt8.ofNat kn).toNat : Int) = kn := by simp; omega
  obtain ⟨bs, ebs⟩ : ∃ bs, bs = pa ++ (attB 192 kn data ++ pc) := ⟨_, rfl⟩
  rw [← ebs] at hgt
  have hbl : bs.length = pa.length + 3 + data.length + pc.length := by rw [ebs, eat]; simp [e1]; omega
  have hget := fun A c => aget_t four A c bs (by omega)
  rw [hgt, hbl] at hget
  have eM : List.map bE pa ++ [[Value.int .u8 192], [Value.int .u8 (kn : Int)], [Value.int .u8 (data.length : Int)]] ++ List.map bE data ++ List.map bE pc = List.map bE bs := by
    rw [ebs, eat, e1, ← e2, ← e3]
    simp [bE]
  have hent : ∀ (T : Nat) (A : Option Addr) (n c : Nat), Ent (own idE T 1 A n c (List.map bE pa ++ [[Value.int .u8 192], [Value.int .u8 (kn : Int)], [Value.int .u8 (data.length : Int)]] ++ List.map bE data ++ List.map bE pc)) (arr bE 1 A bs) := fun T A n c => by
    rw [eM]
    exact own_e
  have hsm : ∀ (d : AttS), d.pa = a.pa → Tri Try.prog 20 [.agg d.e.toArray, .agg a.e.toArray] (d.ro ++ a.ro) [] (fun _ : Unit => True) (fun _ => .bool true) (fun _ => []) := fun d hd => by
    have := rsame_t d a (lim_pa hd oka) la
    rw [hd, sameB_refl] at this
    exact this
  refine Tri_of (N := Try.f6.ntmps) (c := bodyOf Try.f6) Try.func6 rfl rfl rfl rfl (fun w0 S0 => ?_)
  dsimp only [AttS.ro, AttS.e, List.cons_append, List.nil_append]
  repeat' (first | refine SW ?_ | refine SD ?_ | (refine HO_k 12 rfl ?_; refine HO_callq rfl rfl rfl rfl (hla) (fun _ _ => rfl) (srcsA) rfl rfl sqA ?_) | (refine HO_k 12 rfl ?_; refine HO_callq rfl rfl rfl rfl (hlc) (fun _ _ => rfl) (srcsA) rfl rfl sqA ?_) | (refine HO_k 12 rfl ?_; refine HO_callq rfl rfl rfl rfl (hka) (fun _ _ => rfl) (srcsA) rfl rfl sqA ?_) | (refine HO_k 12 rfl ?_; refine HO_callq rfl rfl rfl rfl (hkc) (fun _ _ => rfl) (srcsA) rfl rfl sqA ?_) | (refine HO_k 12 rfl ?_; refine HO_callq rfl rfl rfl rfl (lives_t) (fun _ _ => rfl) (trivial) rfl rfl sqA ?_) | (refine HO_k 12 rfl ?_; refine HO_call rfl rfl rfl rfl (hpa) rfl (srcsA) rfl rfl soA ?_; intro ⟨x1, c1⟩ g1; dsimp only [List.cons_append, List.nil_append]) | (refine HO_k 12 rfl ?_; refine HO_call rfl rfl rfl rfl (hpc) rfl (srcsA) rfl rfl soA ?_; intro ⟨x2, c2⟩ g2; dsimp only [List.cons_append, List.nil_append]) | (refine HO_k 12 rfl ?_; refine HO_call rfl rfl rfl rfl (hget _ _) rfl (AllSrc.via 7 rfl (hent _ _ _ _) trivial) rfl rfl soA ?_; intro a1 ha1; dsimp only [AttS.ro, List.cons_append, List.nil_append]) | (refine HO_k 12 rfl ?_; refine HO_callq rfl rfl rfl rfl (hsm a1 ha1) (fun _ _ => rfl) (srcsB) rfl rfl sqA ?_) | exact HO_seg rfl rfl | refine S1 ?_ | (refine S2 ?_; intro _) | (refine S3 ?_; intro _ _) | (refine S4 ?_; intro _ _ _) | (refine HO_g 2 rfl ?_; (first | apply HO_and rfl rfl rfl rfl rfl rfl rfl rfl rfl | apply HO_or rfl rfl rfl rfl rfl rfl rfl rfl rfl)) | refine S5 ?_ | (intro hb; try replace hb := simB hb; try exact kill hb))
  ((first | apply HX_ret | apply HX_retn); (repeat (first | exact Res_nil | apply Res_tmp rfl | apply Res_ce rfl rfl rfl)); unfold RetQ; refine ⟨(), trivial, ?_, Keeps.nil⟩)
  rfl
end Go.Proofs.Ytklkmdlnbddfaaa
