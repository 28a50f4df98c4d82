/- Whether two attributes are the same. -/
import Derived.Test.YtklkmdlnbddfaaaAttR
namespace Go.Proofs.Ytklkmdlnbddfaaa
set_option linter.unusedVariables false
set_option linter.unusedSimpArgs false
open Go.RowKit
attribute [local irreducible] HC HX HO Tri eP adr

theorem spl_get {l : List SegS} {j : Nat} {s : SegS} (h : l[j]? = some s) : (spl l)[j]? = some (s.set, s.ns) := by
  unfold spl
  rw [List.getElem?_map, h]
  rfl
theorem spl_len (l : List SegS) : (spl l).length = l.length := by simp [spl]
set_option maxHeartbeats 4000000 in
theorem eqS_t (A : Option Addr) (n c : Nat) (l : List SegS) (hn : n = l.length) (B : Option Addr) (n' c' : Nat) (l' : List SegS) (hn' : n' = l'.length) (hl : l.length ≤ 1000000) (hl' : l'.length ≤ 1000000) (h1 : ∀ s ∈ l, s.ns.length ≤ 1000000) (h2 : ∀ s ∈ l', s.ns.length ≤ 1000000) :
    Tri Try.prog 70 [.slice A n c, .slice B n' c', .func (.func 71) #[] #[]] [inn (segPs l), inn (segPs l'), arr SegS.e 2 A l, arr SegS.e 2 B l'] [] (fun _ : Unit => True) (fun _ => .bool (decide (spl l = spl l'))) (fun _ => []) := by
  by_cases hne : l.length = l'.length
  · refine Tri_of (N := Try.f70.ntmps) (c := bodyOf Try.f70) Try.func70 rfl rfl rfl rfl (fun w0 S0 => ?_)
    repeat' (first | refine SW ?_ | refine SD ?_ | exact HO_seg rfl rfl | refine S1 ?_ | (refine S2 ?_; intro _) | (refine S3 ?_; intro _ _) | (refine S4 ?_; intro _ _ _) | (refine HO_g 2 rfl ?_; (first | apply HO_and rfl rfl rfl rfl rfl rfl rfl rfl rfl | apply HO_or rfl rfl rfl rfl rfl rfl rfl rfl rfl)) | refine S5 ?_ | (intro hb; try replace hb := simB hb; try exact kill hb))
    refine HC_loop (α := Nat) (fun j => j ≤ l.length ∧ ∀ q, q < j → (spl l)[q]? = (spl l')[q]?) (fun j => [(17, .int .i64 j), (16, .int .i64 n), (15, .slice A n c), (0, .slice A n c), (1, .slice B n' c'), (2, .func (.func 71) #[] #[])]) (fun _ => []) (fun j => l.length - j) rfl 0 ⟨Nat.zero_le _, fun q hq => by omega⟩ ⟨rfl, rfl, rfl, rfl, rfl, rfl, trivial⟩ rfl ?_
    intro j ⟨hj, hno⟩
    rcases Nat.lt_or_ge j l.length with hlt | hge
    · obtain ⟨x, hx⟩ : ∃ x, l[j]? = some x := ⟨l[j], List.getElem?_eq_getElem hlt⟩
      obtain ⟨y, hy⟩ : ∃ y, l'[j]? = some y := ⟨l'[j], List.getElem?_eq_getElem (by omega)⟩
      have hxm := List.mem_of_getElem? hx
      have hym := List.mem_of_getElem? hy
      have hsm := sameSeg_t x y (segPs l) (segPs l') (seg_mem hxm) (seg_mem hym) (h1 x hxm) (h2 y hym)
      rw [sgSame_iff] at hsm
      by_cases hxy : (x.set, x.ns) = (y.set, y.ns)
      · rw [decide_eq_true hxy] at hsm
        repeat' (first | refine SW ?_ | refine SD ?_ | (refine HO_k 12 rfl ?_; refine HO_callq rfl rfl rfl rfl (hsm) (fun _ _ => rfl) (AllSrc.at_ 0 rfl (AllSrc.at_ 1 rfl trivial)) rfl rfl sqA ?_) | exact HO_seg rfl rfl | refine S1 ?_ | (refine S2 ?_; intro _) | (refine S3 ?_; intro _ _) | (refine S4 ?_; intro _ _ _) | (refine HO_g 2 rfl ?_; (first | apply HO_and rfl rfl rfl rfl rfl rfl rfl rfl rfl | apply HO_or rfl rfl rfl rfl rfl rfl rfl rfl rfl)) | refine S5 ?_ | (intro hb; try replace hb := simB hb; try exact kill hb))
        refine HX_keeps Keeps.nil ?_
        exact HX_at (j + 1) ⟨⟨hlt, fun q hq => by
          rcases Nat.lt_or_ge q j with h | h
          · exact hno q h
          · obtain rfl : q = j := by omega
            rw [spl_get hx, spl_get hy, hxy]⟩, by omega⟩ ⟨rfl, rfl, rfl, rfl, rfl, rfl, trivial⟩ rfl
      · rw [decide_eq_false hxy] at hsm
        repeat' (first | refine SW ?_ | refine SD ?_ | (refine HO_k 12 rfl ?_; refine HO_callq rfl rfl rfl rfl (hsm) (fun _ _ => rfl) (AllSrc.at_ 0 rfl (AllSrc.at_ 1 rfl trivial)) rfl rfl sqA ?_) | exact HO_seg rfl rfl | refine S1 ?_ | (refine S2 ?_; intro _) | (refine S3 ?_; intro _ _) | (refine S4 ?_; intro _ _ _) | (refine HO_g 2 rfl ?_; (first | apply HO_and rfl rfl rfl rfl rfl rfl rfl rfl rfl | apply HO_or rfl rfl rfl rfl rfl rfl rfl rfl rfl)) | refine S5 ?_ | (intro hb; try replace hb := simB hb; try exact kill hb))
        ((first | apply HX_ret | apply HX_retn); (repeat (first | exact Res_nil | apply Res_tmp rfl | apply Res_ce rfl rfl rfl)); unfold RetQ; refine ⟨(), trivial, ?_, Keeps.nil⟩)
        rw [dec_false (spl_get hx) (spl_get hy) hxy]; rfl
    · obtain rfl : j = l.length := by omega
      repeat' (first | refine SW ?_ | refine SD ?_ | exact HO_seg rfl rfl | refine S1 ?_ | (refine S2 ?_; intro _) | (refine S3 ?_; intro _ _) | (refine S4 ?_; intro _ _ _) | (refine HO_g 2 rfl ?_; (first | apply HO_and rfl rfl rfl rfl rfl rfl rfl rfl rfl | apply HO_or rfl rfl rfl rfl rfl rfl rfl rfl rfl)) | refine S5 ?_ | (intro hb; try replace hb := simB hb; try exact kill hb))
      ((first | apply HX_ret | apply HX_retn); (repeat (first | exact Res_nil | apply Res_tmp rfl | apply Res_ce rfl rfl rfl)); unfold RetQ; refine ⟨(), trivial, ?_, Keeps.nil⟩)
      rw [decide_eq_true (all_same (by rw [spl_len, spl_len, hne]) (fun q hq => hno q (by rwa [spl_len] at hq)))]; rfl
  · have e : decide (spl l = spl l') = false := decide_eq_false fun h => hne (by rw [← spl_len l, h, spl_len])
    rw [e]
    refine Tri_of (N := Try.f70.ntmps) (c := bodyOf Try.f70) Try.func70 rfl rfl rfl rfl (fun w0 S0 => ?_)
    repeat' (first | refine SW ?_ | refine SD ?_ | exact HO_seg rfl rfl | refine S1 ?_ | (refine S2 ?_; intro _) | (refine S3 ?_; intro _ _) | (refine S4 ?_; intro _ _ _) | (refine HO_g 2 rfl ?_; (first | apply HO_and rfl rfl rfl rfl rfl rfl rfl rfl rfl | apply HO_or rfl rfl rfl rfl rfl rfl rfl rfl rfl)) | refine S5 ?_ | (intro hb; try replace hb := simB hb; try exact kill hb))
    ((first | apply HX_ret | apply HX_retn); (repeat (first | exact Res_nil | apply Res_tmp rfl | apply Res_ce rfl rfl rfl)); unfold RetQ; refine ⟨(), trivial, ?_, Keeps.nil⟩)
    rfl
def sameB (p q : PA) : Bool := decide (p.org = q.org) && decide (p.nxt = q.nxt) && decide (p.med = q.med) && decide (p.pref = q.pref) && decide (p.comms = q.comms) && decide (p.path = q.path)
theorem sameB_refl (p : PA) : sameB p p = true := by simp [sameB]
/-- what is asked of attributes' lengths -/
structure Lim (a : AttS) : Prop where
  p : a.path.length ≤ 1000
  c : a.comms.length ≤ 1000
  s : ∀ s ∈ a.path, s.ns.length ≤ 1000
set_option maxHeartbeats 4000000 in
theorem asame_t (a a' : AttS) (h : Lim a) (h' : Lim a') :
    Tri Try.prog 22 [.agg a.e.toArray, .agg a'.e.toArray] (a.ro ++ a'.ro) [] (fun _ : Unit => True) (fun _ => .bool (sameB a.pa a'.pa)) (fun _ => []) := by
  obtain ⟨hp, hc, hs⟩ := h
  obtain ⟨hp', hc', hs'⟩ := h'
  have hcm := eqI_t a.cA a.comms.length a.cc a.comms rfl a'.cA a'.comms.length a'.cc a'.comms rfl (by omega) (by omega)
  have hsg := eqS_t a.pA a.path.length a.pc a.path rfl a'.pA a'.path.length a'.pc a'.path rfl (by omega) (by omega) (fun s hm => by have := hs s hm; omega) (fun s hm => by have := hs' s hm; omega)
  refine Tri_of (N := Try.f22.ntmps) (c := bodyOf Try.f22) Try.func22 rfl rfl rfl rfl (fun w0 S0 => ?_)
  dsimp only [AttS.ro, AttS.e, List.cons_append, List.nil_append]
  repeat' (first | refine SW ?_ | (refine HO_k 12 rfl ?_; refine HO_callq rfl rfl rfl rfl (hcm) (fun _ _ => rfl) (srcsA) rfl rfl sqA ?_) | (refine HO_k 12 rfl ?_; refine HO_callq rfl rfl rfl rfl (hsg) (fun _ _ => rfl) (srcsA) rfl rfl sqA ?_) | exact HO_seg rfl rfl | refine S1 ?_ | (refine S2 ?_; intro _) | (refine S3 ?_; intro _ _) | (refine S4 ?_; intro _ _ _) | (refine HO_g 2 rfl ?_; (first | apply HO_and rfl rfl rfl rfl rfl rfl rfl rfl rfl | apply HO_or rfl rfl rfl rfl rfl rfl rfl rfl rfl)) | refine S5 ?_ | (intro hb; try replace hb := simB hb; try exact kill hb))
  ((first | apply HX_ret | apply HX_retn); (repeat (first | exact Res_nil | apply Res_tmp rfl | apply Res_ce rfl rfl rfl)); unfold RetQ; refine ⟨(), trivial, ?_, Keeps.nil⟩)
  rfl
end Go.Proofs.Ytklkmdlnbddfaaa
