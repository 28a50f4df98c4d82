/- The reference's: whether two attributes are the same. -/
import Derived.Test.YtdeeokkkcfkbjaaGreatAttS
namespace Go.Proofs.YtdeeokkkcfkbjaaGreat
set_option linter.unusedVariables false
set_option linter.unusedSimpArgs false
open Go.RowKit
attribute [local irreducible] HC HX HO Tri eP adr

theorem sameB_false {p q : PA} (h : ¬ (p.org = q.org ∧ p.nxt = q.nxt ∧ p.med = q.med ∧ p.pref = q.pref ∧ p.comms = q.comms ∧ p.path = q.path)) : sameB p q = false := by
  cases hb : sameB p q with
  | false => rfl
  | true =>
    unfold sameB at hb
    simp only [Bool.and_eq_true, decide_eq_true_eq] at hb
    exact absurd ⟨hb.1.1.1.1.1, hb.1.1.1.1.2, hb.1.1.1.2, hb.1.1.2, hb.1.2, hb.2⟩ h
theorem sameB_true {p q : PA} (h : p.org = q.org ∧ p.nxt = q.nxt ∧ p.med = q.med ∧ p.pref = q.pref ∧ p.comms = q.comms ∧ p.path = q.path) : sameB p q = true := by
  obtain ⟨h1, h2, h3, h4, h5, h6⟩ := h
  unfold sameB
  simp [h1, h2, h3, h4, h5, h6]
set_option maxHeartbeats 8000000 in
set_option maxRecDepth 100000 in
theorem rsame_t (a a' : AttS) (h : Lim a) (h' : Lim a') :
    Tri Tryz.prog 70 [.agg a.e.toArray, .agg a'.e.toArray] (a.ro ++ a'.ro) [] (fun _ : Unit => True) (fun _ => .bool (sameB a.pa a'.pa)) (fun _ => []) := by
  obtain ⟨hp, hc, hs⟩ := h
  obtain ⟨hp', hc', hs'⟩ := h'
  have hcm := reqI_t a.cA a.comms.length a.cc a.comms rfl a'.cA a'.comms.length a'.cc a'.comms rfl (by omega) (by omega)
  refine Tri_of (N := Tryz.f70.ntmps) (c := bodyOf Tryz.f70) Tryz.func70 rfl rfl rfl rfl (fun w0 S0 => ?_)
  dsimp only [AttS.ro, AttS.e, List.cons_append, List.nil_append]
  repeat' (first | refine SW ?_ | (refine HO_k 12 rfl ?_; refine HO_callq rfl rfl rfl rfl (hcm) (fun _ _ => rfl) (srcsA) rfl rfl sqA ?_) | exact HO_seg rfl rfl | refine S1 ?_ | (refine S2 ?_; intro _) | (refine S3 ?_; intro _ _) | (refine S4 ?_; intro _ _ _) | (refine HO_g 2 rfl ?_; (first | apply HO_and rfl rfl rfl rfl rfl rfl rfl rfl rfl | apply HO_or rfl rfl rfl rfl rfl rfl rfl rfl rfl)) | refine S5 ?_ | (intro hb; try replace hb := simB hb; try exact kill hb))
  refine HC_cond rfl rfl (fun hb => ?_) (fun hb => ?_)
  · repeat' (first | refine SW ?_ | exact HO_seg rfl rfl | refine S1 ?_ | (refine S2 ?_; intro _) | (refine S3 ?_; intro _ _) | (refine S4 ?_; intro _ _ _) | (refine HO_g 2 rfl ?_; (first | apply HO_and rfl rfl rfl rfl rfl rfl rfl rfl rfl | apply HO_or rfl rfl rfl rfl rfl rfl rfl rfl rfl)) | refine S5 ?_ | (intro hb; try replace hb := simB hb; try exact kill hb))
    ((first | apply HX_ret | apply HX_retn); (repeat (first | exact Res_nil | apply Res_tmp rfl | apply Res_ce rfl rfl rfl)); unfold RetQ; refine ⟨(), trivial, ?_, Keeps.nil⟩)
    refine congrArg Value.bool (Eq.symm (sameB_false fun hh => ?_))
    obtain ⟨h1, h2, h3, h4, h5, h6⟩ := hh
    simp only [AttS.pa] at h1 h2 h3 h4 h5 h6
    have h7 : a.path.length = a'.path.length := by rw [← spl_len, h6, spl_len]
    simp [h1, h2, h3, h4, h5, h7] at hb
  simp only [Bool.or_eq_false_iff, Bool.not_eq_false', decide_eq_true_eq] at hb
  obtain ⟨⟨⟨⟨⟨e1, e2⟩, e3⟩, e4⟩, e5⟩, e60⟩ := hb
  have e6 : a.path.length = a'.path.length := by omega
  repeat' (first | refine SW ?_ | exact HO_seg rfl rfl | refine S1 ?_ | (refine S2 ?_; intro _) | (refine S3 ?_; intro _ _) | (refine S4 ?_; intro _ _ _) | (refine HO_g 2 rfl ?_; (first | apply HO_and rfl rfl rfl rfl rfl rfl rfl rfl rfl | apply HO_or rfl rfl rfl rfl rfl rfl rfl rfl rfl)) | refine S5 ?_ | (intro hb; try replace hb := simB hb; try exact kill hb))
  rename_i b1 b2
  refine HC_loop (α := Nat) (fun j => j ≤ a.path.length ∧ ∀ q, q < j → (spl a.path)[q]? = (spl a'.path)[q]?) (fun j => [(5, .int .i64 j), (2, pt b1), (3, pt b2)]) (fun _ => [cel b2 49 a'.e, cel b1 49 a.e]) (fun j => a.path.length - j) rfl 0 ⟨Nat.zero_le _, fun q hq => by omega⟩ ⟨rfl, rfl, rfl, trivial⟩ rfl ?_
  intro j ⟨hj, hno⟩
  dsimp only [pt, AttS.e]
  rcases Nat.lt_or_ge j a.path.length with hlt | hge
  · obtain ⟨x, hx⟩ : ∃ x, a.path[j]? = some x := ⟨a.path[j], List.getElem?_eq_getElem hlt⟩
    obtain ⟨y, hy⟩ : ∃ y, a'.path[j]? = some y := ⟨a'.path[j], List.getElem?_eq_getElem (by omega)⟩
    have hxm := List.mem_of_getElem? hx
    have hym := List.mem_of_getElem? hy
    have hsm := reqI_t x.A x.ns.length x.c x.ns rfl y.A y.ns.length y.c y.ns rfl (by have := hs x hxm; omega) (by have := hs' y hym; omega)
    have hwx := spl_get hx
    have hwy := spl_get hy
    repeat' (first | refine SW ?_ | refine SD ?_ | (refine HO_k 12 rfl ?_; refine HO_callq rfl rfl rfl rfl (hsm) (fun _ _ => rfl) (AllSrc.via 0 rfl (inn_arr (seg_mem hxm)) (AllSrc.via 3 rfl (inn_arr (seg_mem hym)) trivial)) rfl rfl sqA ?_) | exact HO_seg rfl rfl | refine S1 ?_ | (refine S2 ?_; intro _) | (refine S3 ?_; intro _ _) | (refine S4 ?_; intro _ _ _) | (refine HO_g 2 rfl ?_; (first | apply HO_and rfl rfl rfl rfl rfl rfl rfl rfl rfl | apply HO_or rfl rfl rfl rfl rfl rfl rfl rfl rfl)) | refine S5 ?_ | (intro hb; try replace hb := simB hb; try exact kill hb))
    refine HC_cond rfl rfl (fun hb => ?_) (fun hb => ?_)
    · repeat' (first | refine SW ?_ | exact HO_seg rfl rfl | refine S1 ?_ | (refine S2 ?_; intro _) | (refine S3 ?_; intro _ _) | (refine S4 ?_; intro _ _ _) | (refine HO_g 2 rfl ?_; (first | apply HO_and rfl rfl rfl rfl rfl rfl rfl rfl rfl | apply HO_or rfl rfl rfl rfl rfl rfl rfl rfl rfl)) | refine S5 ?_ | (intro hb; try replace hb := simB hb; try exact kill hb))
      ((first | apply HX_ret | apply HX_retn); (repeat (first | exact Res_nil | apply Res_tmp rfl | apply Res_ce rfl rfl rfl)); unfold RetQ; refine ⟨(), trivial, ?_, Keeps.nil⟩)
      refine congrArg Value.bool (Eq.symm (sameB_false fun hh => ?_))
      have h6 : spl a.path = spl a'.path := hh.2.2.2.2.2
      rw [h6, hwy] at hwx
      injection hwx with hwx
      injection hwx with g1 g2
      simp [g1, g2] at hb
    · simp only [Bool.or_eq_false_iff, Bool.not_eq_false', decide_eq_true_eq] at hb
      repeat' (first | refine SW ?_ | refine SD ?_ | exact HO_seg rfl rfl | refine S1 ?_ | (refine S2 ?_; intro _) | (refine S3 ?_; intro _ _) | (refine S4 ?_; intro _ _ _) | (refine HO_g 2 rfl ?_; (first | apply HO_and rfl rfl rfl rfl rfl rfl rfl rfl rfl | apply HO_or rfl rfl rfl rfl rfl rfl rfl rfl rfl)) | refine S5 ?_ | (intro hb; try replace hb := simB hb; try exact kill hb))
      exact HX_at (j + 1) ⟨⟨hlt, fun q hq => by
        rcases Nat.lt_or_ge q j with h | h
        · exact hno q h
        · obtain rfl : q = j := by omega
          rw [hwx, hwy, hb.1, hb.2]⟩, by omega⟩ ⟨rfl, rfl, rfl, trivial⟩ rfl
  · obtain rfl : j = a.path.length := by omega
    repeat' (first | refine SW ?_ | refine SD ?_ | exact HO_seg rfl rfl | refine S1 ?_ | (refine S2 ?_; intro _) | (refine S3 ?_; intro _ _) | (refine S4 ?_; intro _ _ _) | (refine HO_g 2 rfl ?_; (first | apply HO_and rfl rfl rfl rfl rfl rfl rfl rfl rfl | apply HO_or rfl rfl rfl rfl rfl rfl rfl rfl rfl)) | refine S5 ?_ | (intro hb; try replace hb := simB hb; try exact kill hb))
    ((first | apply HX_ret | apply HX_retn); (repeat (first | exact Res_nil | apply Res_tmp rfl | apply Res_ce rfl rfl rfl)); unfold RetQ; refine ⟨(), trivial, ?_, Keeps.nil⟩)
    refine congrArg Value.bool (Eq.symm (sameB_true ⟨e1, e2, e3, e4, e5, ?_⟩))
    exact all_same (by simp only [AttS.pa]; rw [spl_len, spl_len, e6]) (fun q hq => hno q (by simpa [AttS.pa, spl] using hq))
end Go.Proofs.YtdeeokkkcfkbjaaGreat
