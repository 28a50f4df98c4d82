/- Whether a number is in a path. -/
import Derived.Test.YtklkmdlnbddfaaaAttU
namespace Go.Proofs.Ytklkmdlnbddfaaa
set_option linter.unusedVariables false
set_option linter.unusedSimpArgs false
open Go.RowKit
attribute [local irreducible] HC HX HO Tri eP adr

set_option maxHeartbeats 4000000 in
theorem indexN_t (A : Option Addr) (n c : Nat) (l : List Int) (hn : n = l.length) (hl : l.length ≤ 1000000) (v : Int) :
    Tri Try.prog 108 [.slice A n c, .int .i64 v] [arr iE 1 A l] [] (fun _ : Unit => True) (fun _ => .int .i64 (idxF (fun x => decide (v = x)) l)) (fun _ => []) := by
  refine Tri_of (N := Try.f108.ntmps) (c := bodyOf Try.f108) Try.func108 rfl rfl rfl rfl (fun w0 S0 => ?_)
  repeat' (first | refine SW ?_ | refine SD ?_ | exact HO_seg rfl rfl | refine S1 ?_ | (refine S2 ?_; intro _) | (refine S3 ?_; intro _ _) | (refine S4 ?_; intro _ _ _) | (refine HO_g 2 rfl ?_; (first | apply HO_and rfl rfl rfl rfl rfl rfl rfl rfl rfl | apply HO_or rfl rfl rfl rfl rfl rfl rfl rfl rfl)) | refine S5 ?_ | (intro hb; try replace hb := simB hb; try exact kill hb))
  refine HC_loop (α := Nat) (fun j => j ≤ l.length ∧ ∀ q, q < j → ∀ b, l[q]? = some b → decide (v = b) = false) (fun j => [(8, .int .i64 j), (7, .int .i64 n), (0, .slice A n c), (1, .int .i64 v)]) (fun _ => []) (fun j => l.length - j) rfl 0 ⟨Nat.zero_le _, fun q hq => by omega⟩ ⟨rfl, rfl, rfl, rfl, trivial⟩ rfl ?_
  intro j ⟨hj, hno⟩
  rcases Nat.lt_or_ge j l.length with hlt | hge
  · obtain ⟨a, ha⟩ : ∃ a, l[j]? = some a := ⟨l[j], List.getElem?_eq_getElem hlt⟩
    by_cases hva : v = a
    · repeat' (first | refine SW ?_ | refine SD ?_ | exact HO_seg rfl rfl | refine S1 ?_ | (refine S2 ?_; intro _) | (refine S3 ?_; intro _ _) | (refine S4 ?_; intro _ _ _) | (refine HO_g 2 rfl ?_; (first | apply HO_and rfl rfl rfl rfl rfl rfl rfl rfl rfl | apply HO_or rfl rfl rfl rfl rfl rfl rfl rfl rfl)) | refine S5 ?_ | (intro hb; try replace hb := simB hb; try exact kill hb))
      ((first | apply HX_ret | apply HX_retn); (repeat (first | exact Res_nil | apply Res_tmp rfl | apply Res_ce rfl rfl rfl)); unfold RetQ; refine ⟨(), trivial, ?_, Keeps.nil⟩)
      exact congrArg (Value.int .i64) (idxF_at ha (decide_eq_true hva) hno).symm
    · repeat' (first | refine SW ?_ | refine SD ?_ | exact HO_seg rfl rfl | refine S1 ?_ | (refine S2 ?_; intro _) | (refine S3 ?_; intro _ _) | (refine S4 ?_; intro _ _ _) | (refine HO_g 2 rfl ?_; (first | apply HO_and rfl rfl rfl rfl rfl rfl rfl rfl rfl | apply HO_or rfl rfl rfl rfl rfl rfl rfl rfl rfl)) | refine S5 ?_ | (intro hb; try replace hb := simB hb; try exact kill hb))
      exact HX_at (j + 1) ⟨⟨hlt, fun q hq b hbq => by
        rcases Nat.lt_or_ge q j with h | h
        · exact hno q h b hbq
        · obtain rfl : q = j := by omega
          rw [ha] at hbq
          injection hbq with hbq
          exact hbq ▸ decide_eq_false hva⟩, by omega⟩ ⟨rfl, rfl, rfl, rfl, trivial⟩ rfl
  · obtain rfl : j = l.length := by omega
    repeat' (first | refine SW ?_ | refine SD ?_ | exact HO_seg rfl rfl | refine S1 ?_ | (refine S2 ?_; intro _) | (refine S3 ?_; intro _ _) | (refine S4 ?_; intro _ _ _) | (refine HO_g 2 rfl ?_; (first | apply HO_and rfl rfl rfl rfl rfl rfl rfl rfl rfl | apply HO_or rfl rfl rfl rfl rfl rfl rfl rfl rfl)) | refine S5 ?_ | (intro hb; try replace hb := simB hb; try exact kill hb))
    ((first | apply HX_ret | apply HX_retn); (repeat (first | exact Res_nil | apply Res_tmp rfl | apply Res_ce rfl rfl rfl)); unfold RetQ; refine ⟨(), trivial, ?_, Keeps.nil⟩)
    exact congrArg (Value.int .i64) (idxF_no hno).symm
theorem containsN_t (A : Option Addr) (n c : Nat) (l : List Int) (hn : n = l.length) (hl : l.length ≤ 1000000) (v : Int) :
    Tri Try.prog 73 [.slice A n c, .int .i64 v] [arr iE 1 A l] [] (fun _ : Unit => True) (fun _ => .bool (l.any fun x => decide (v = x))) (fun _ => []) := by
  have h1 := indexN_t A n c l hn hl v
  refine Tri_of (N := Try.f73.ntmps) (c := bodyOf Try.f73) Try.func73 rfl rfl rfl rfl (fun w0 S0 => ?_)
  repeat' (first | refine SW ?_ | (refine HO_k 12 rfl ?_; refine HO_callq rfl rfl rfl rfl (h1) (fun _ _ => rfl) (srcsA) rfl rfl sqA ?_) | exact HO_seg rfl rfl | refine S1 ?_ | (refine S2 ?_; intro _) | (refine S3 ?_; intro _ _) | (refine S4 ?_; intro _ _ _) | (refine HO_g 2 rfl ?_; (first | apply HO_and rfl rfl rfl rfl rfl rfl rfl rfl rfl | apply HO_or rfl rfl rfl rfl rfl rfl rfl rfl rfl)) | refine S5 ?_ | (intro hb; try replace hb := simB hb; try exact kill hb))
  ((first | apply HX_ret | apply HX_retn); (repeat (first | exact Res_nil | apply Res_tmp rfl | apply Res_ce rfl rfl rfl)); unfold RetQ; refine ⟨(), trivial, ?_, Keeps.nil⟩)
  exact congrArg Value.bool (idxF_ge _ l)
theorem has1_t (s : SegS) (b : Nat) (v : Int) (L : List SL) (hs : arr iE 1 s.A s.ns ∈ L) (hl : s.ns.length ≤ 1000000) :
    Tri Try.prog 72 [.agg s.e.toArray, pt b] [inn L, cel b 3 [.int .i64 v]] [] (fun _ : Unit => True) (fun _ => .bool (s.ns.any fun x => decide (v = x))) (fun _ => []) := by
  refine Tri_of (N := Try.f72.ntmps) (c := bodyOf Try.f72) Try.func72 rfl rfl rfl rfl (fun w0 S0 => ?_)
  dsimp only [pt]
  repeat' (first | refine SW ?_ | (refine HO_k 12 rfl ?_; refine HO_callq rfl rfl rfl rfl (containsN_t s.A s.ns.length s.c s.ns rfl hl v) (fun _ _ => rfl) (AllSrc.via 0 rfl (inn_arr hs) trivial) rfl rfl sqA ?_) | exact HO_seg rfl rfl | refine S1 ?_ | (refine S2 ?_; intro _) | (refine S3 ?_; intro _ _) | (refine S4 ?_; intro _ _ _) | (refine HO_g 2 rfl ?_; (first | apply HO_and rfl rfl rfl rfl rfl rfl rfl rfl rfl | apply HO_or rfl rfl rfl rfl rfl rfl rfl rfl rfl)) | refine S5 ?_ | (intro hb; try replace hb := simB hb; try exact kill hb))
  ((first | apply HX_ret | apply HX_retn); (repeat (first | exact Res_nil | apply Res_tmp rfl | apply Res_ce rfl rfl rfl)); unfold RetQ; refine ⟨(), trivial, ?_, Keeps.nil⟩)
  rfl
def hasP (l : List SegS) (v : Int) : Bool := l.any fun s => s.ns.any fun x => decide (v = x)
set_option maxHeartbeats 4000000 in
theorem ahas_t (a : AttS) (v : Int) (h : Lim a) : Tri Try.prog 27 [.agg a.e.toArray, .int .i64 v] a.ro [] (fun _ : Unit => True) (fun _ => .bool (hasP a.path v)) (fun _ => []) := by
  obtain ⟨hp, hc, hs⟩ := h
  refine Tri_of (N := Try.f27.ntmps) (c := bodyOf Try.f27) Try.func27 rfl rfl rfl rfl (fun w0 S0 => ?_)
  dsimp only [AttS.ro, AttS.e]
  repeat' (first | refine SW ?_ | exact HO_seg rfl rfl | refine S1 ?_ | (refine S2 ?_; intro _) | (refine S3 ?_; intro _ _) | (refine S4 ?_; intro _ _ _) | (refine HO_g 2 rfl ?_; (first | apply HO_and rfl rfl rfl rfl rfl rfl rfl rfl rfl | apply HO_or rfl rfl rfl rfl rfl rfl rfl rfl rfl)) | refine S5 ?_ | (intro hb; try replace hb := simB hb; try exact kill hb))
  rename_i b1 b2
  (refine HO_k 12 rfl ?_; refine HO_callq rfl rfl rfl rfl (containsS_t a.pA a.path.length a.pc a.path rfl (by omega) 72 [pt b2] _ (fun s => s.ns.any fun x => decide (v = x)) (fun s hm => has1_t s b2 v _ (seg_mem hm) (by have := hs s hm; omega))) (fun _ _ => rfl) (srcsA) rfl rfl sqA ?_)
  repeat' (first | refine SW ?_ | exact HO_seg rfl rfl | refine S1 ?_ | (refine S2 ?_; intro _) | (refine S3 ?_; intro _ _) | (refine S4 ?_; intro _ _ _) | (refine HO_g 2 rfl ?_; (first | apply HO_and rfl rfl rfl rfl rfl rfl rfl rfl rfl | apply HO_or rfl rfl rfl rfl rfl rfl rfl rfl rfl)) | refine S5 ?_ | (intro hb; try replace hb := simB hb; try exact kill hb))
  ((first | apply HX_ret | apply HX_retn); (repeat (first | exact Res_nil | apply Res_tmp rfl | apply Res_ce rfl rfl rfl)); unfold RetQ; refine ⟨(), trivial, ?_, Keeps.nil⟩)
  rfl
set_option maxHeartbeats 4000000 in
theorem rhas_t (a : AttS) (v : Int) (h : Lim a) : Tri Try.prog 28 [.agg a.e.toArray, .int .i64 v] a.ro [] (fun _ : Unit => True) (fun _ => .bool (hasP a.path v)) (fun _ => []) := by
  obtain ⟨hp, hc, hs⟩ := h
  refine Tri_of (N := Try.f28.ntmps) (c := bodyOf Try.f28) Try.func28 rfl rfl rfl rfl (fun w0 S0 => ?_)
  dsimp only [AttS.ro, AttS.e]
  repeat' (first | refine SW ?_ | exact HO_seg rfl rfl | refine S1 ?_ | (refine S2 ?_; intro _) | (refine S3 ?_; intro _ _) | (refine S4 ?_; intro _ _ _) | (refine HO_g 2 rfl ?_; (first | apply HO_and rfl rfl rfl rfl rfl rfl rfl rfl rfl | apply HO_or rfl rfl rfl rfl rfl rfl rfl rfl rfl)) | refine S5 ?_ | (intro hb; try replace hb := simB hb; try exact kill hb))
  rename_i b1
  refine HC_loop (α := Nat) (fun j => j ≤ a.path.length ∧ ∀ s ∈ a.path.take j, (s.ns.any fun x => decide (v = x)) = false) (fun j => [(5, .int .i64 j), (2, pt b1), (1, .int .i64 v)]) (fun _ => [cel b1 26 a.e]) (fun j => a.path.length - j) rfl 0 ⟨Nat.zero_le _, fun s hs => by simp at hs⟩ ⟨rfl, rfl, rfl, trivial⟩ rfl ?_
  intro j ⟨hj, hno⟩
  dsimp only [pt, AttS.e]
  rcases Nat.lt_or_ge j a.path.length with hlt | hge
  · obtain ⟨s, hs0⟩ : ∃ s, a.path[j]? = some s := ⟨a.path[j], List.getElem?_eq_getElem hlt⟩
    have hsm := List.mem_of_getElem? hs0
    have hsl := hs s hsm
    repeat' (first | refine SW ?_ | refine SD ?_ | exact HO_seg rfl rfl | refine S1 ?_ | (refine S2 ?_; intro _) | (refine S3 ?_; intro _ _) | (refine S4 ?_; intro _ _ _) | (refine HO_g 2 rfl ?_; (first | apply HO_and rfl rfl rfl rfl rfl rfl rfl rfl rfl | apply HO_or rfl rfl rfl rfl rfl rfl rfl rfl rfl)) | refine S5 ?_ | (intro hb; try replace hb := simB hb; try exact kill hb))
    refine HC_see List.mem_cons_self (seg_mem hsm) ?_
    refine HC_loop (α := Nat) (fun k => k ≤ s.ns.length ∧ ∀ x ∈ s.ns.take k, decide (v = x) = false) (fun k => [(6, .int .i64 k), (5, .int .i64 j), (2, pt b1), (1, .int .i64 v)]) (fun _ => [cel b1 26 a.e]) (fun k => s.ns.length - k) rfl 0 ⟨Nat.zero_le _, fun s hs => by simp at hs⟩ ⟨rfl, rfl, rfl, rfl, trivial⟩ rfl ?_
    intro k ⟨hk, hnk⟩
    dsimp only [pt, AttS.e]
    rcases Nat.lt_or_ge k s.ns.length with hklt | hkge
    · obtain ⟨x, hx⟩ : ∃ x, s.ns[k]? = some x := ⟨s.ns[k], List.getElem?_eq_getElem hklt⟩
      by_cases hxv : x = v
      · repeat' (first | refine SW ?_ | refine SD ?_ | exact HO_seg rfl rfl | refine S1 ?_ | (refine S2 ?_; intro _) | (refine S3 ?_; intro _ _) | (refine S4 ?_; intro _ _ _) | (refine HO_g 2 rfl ?_; (first | apply HO_and rfl rfl rfl rfl rfl rfl rfl rfl rfl | apply HO_or rfl rfl rfl rfl rfl rfl rfl rfl rfl)) | refine S5 ?_ | (intro hb; try replace hb := simB hb; try exact kill hb))
        refine HX_unsee ?_
        ((first | apply HX_ret | apply HX_retn); (repeat (first | exact Res_nil | apply Res_tmp rfl | apply Res_ce rfl rfl rfl)); unfold RetQ; refine ⟨(), trivial, ?_, Keeps.nil⟩)
        refine congrArg Value.bool (Eq.symm ?_)
        exact List.any_eq_true.2 ⟨s, hsm, List.any_eq_true.2 ⟨x, List.mem_of_getElem? hx, decide_eq_true hxv.symm⟩⟩
      · repeat' (first | refine SW ?_ | refine SD ?_ | exact HO_seg rfl rfl | refine S1 ?_ | (refine S2 ?_; intro _) | (refine S3 ?_; intro _ _) | (refine S4 ?_; intro _ _ _) | (refine HO_g 2 rfl ?_; (first | apply HO_and rfl rfl rfl rfl rfl rfl rfl rfl rfl | apply HO_or rfl rfl rfl rfl rfl rfl rfl rfl rfl)) | refine S5 ?_ | (intro hb; try replace hb := simB hb; try exact kill hb))
        exact HX_at (k + 1) ⟨⟨hklt, fun m hm => by
          rw [List.take_add_one, hx, List.mem_append] at hm
          rcases hm with hm | hm
          · exact hnk m hm
          · simp at hm; rw [hm]; exact decide_eq_false (fun h => hxv h.symm)⟩, by omega⟩ ⟨rfl, rfl, rfl, rfl, trivial⟩ rfl
    · obtain rfl : k = s.ns.length := by omega
      rw [List.take_length] at hnk
      repeat' (first | refine SW ?_ | refine SD ?_ | exact HO_seg rfl rfl | refine S1 ?_ | (refine S2 ?_; intro _) | (refine S3 ?_; intro _ _) | (refine S4 ?_; intro _ _ _) | (refine HO_g 2 rfl ?_; (first | apply HO_and rfl rfl rfl rfl rfl rfl rfl rfl rfl | apply HO_or rfl rfl rfl rfl rfl rfl rfl rfl rfl)) | refine S5 ?_ | (intro hb; try replace hb := simB hb; try exact kill hb))
      refine HX_unsee ?_
      exact HX_at (j + 1) ⟨⟨hlt, fun m hm => by
        rw [List.take_add_one, hs0, List.mem_append] at hm
        rcases hm with hm | hm
        · exact hno m hm
        · simp at hm; rw [hm]; exact List.any_eq_false.2 fun x hx => by rw [hnk x hx]; decide⟩, by omega⟩ ⟨rfl, rfl, rfl, trivial⟩ rfl
  · obtain rfl : j = a.path.length := by omega
    rw [List.take_length] at hno
    repeat' (first | refine SW ?_ | refine SD ?_ | exact HO_seg rfl rfl | refine S1 ?_ | (refine S2 ?_; intro _) | (refine S3 ?_; intro _ _) | (refine S4 ?_; intro _ _ _) | (refine HO_g 2 rfl ?_; (first | apply HO_and rfl rfl rfl rfl rfl rfl rfl rfl rfl | apply HO_or rfl rfl rfl rfl rfl rfl rfl rfl rfl)) | refine S5 ?_ | (intro hb; try replace hb := simB hb; try exact kill hb))
    ((first | apply HX_ret | apply HX_retn); (repeat (first | exact Res_nil | apply Res_tmp rfl | apply Res_ce rfl rfl rfl)); unfold RetQ; refine ⟨(), trivial, ?_, Keeps.nil⟩)
    refine congrArg Value.bool (Eq.symm ?_)
    exact List.any_eq_false.2 fun s hs => by rw [hno s hs]; decide
end Go.Proofs.Ytklkmdlnbddfaaa
