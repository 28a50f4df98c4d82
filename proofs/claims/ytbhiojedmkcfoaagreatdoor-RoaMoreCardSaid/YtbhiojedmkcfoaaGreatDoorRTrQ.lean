/- Part of a proof of many texts: what the theorem at its end leans on. -/
import Derived.Test.YtbhiojedmkcfoaaGreatDoorRSc0
import Derived.Test.YtbhiojedmkcfoaaGreatDoorRTrC
namespace Go.Proofs.YtbhiojedmkcfoaaGreatDoor
set_option linter.unusedVariables false
set_option linter.unusedSimpArgs false
open Go.RowKit
attribute [local irreducible] HC HX HO Tri eP adr
def largeB (a : AttS) : Bool := decide (20 < a.path.length) || decide (100 < a.comms.length) || a.path.any fun s => decide (200 < s.ns.length)
theorem large_lim {a : AttS} (h : largeB a = false) : a.path.length ≤ 20 ∧ a.comms.length ≤ 100 ∧ ∀ s ∈ a.path, s.ns.length ≤ 200 := by
 unfold largeB at h
 simp only [Bool.or_eq_false_iff, decide_eq_false_iff_not] at h
 refine ⟨by omega, by omega, fun s hs => ?_⟩
 have := List.any_eq_false.1 h.2 s hs
 simp at this
 exact this
theorem lim_of {a : AttS} (h : largeB a = false) : Lim a := by
 obtain ⟨h1, h2, h3⟩ := large_lim h
 exact ⟨by omega, by omega, fun s hs => by have := h3 s hs; omega⟩
set_option maxHeartbeats 1000000000 in
theorem large_t (a : AttS) : Tri Tryz.prog 27 [.agg a.e.toArray] a.ro [] (fun _ : Unit => True) (fun _ => .bool (largeB a)) (fun _ => []) := by
 by_cases h0 : 20 < a.path.length ∨ 100 < a.comms.length
 ·have e : largeB a = true := by
   unfold largeB
   rcases h0 with h | h <;> simp [h]
  rw [e]
  refine Tri_of (N := Tryz.f27.ntmps) (c := bodyOf Tryz.f27) Tryz.func27 rfl rfl rfl rfl (fun w0 S0 => ?_)
  dsimp only [AttS.ro, AttS.e]
  repeat' (first | refine SW ?_ | exact HO_seg rfl rfl | refine S1 ?_ | (refine S2 ?_; intro _) | (refine S3 ?_; intro _ _) | (refine S4 ?_; intro _ _ _) | (refine HO_g 2 rfl ?_; first | apply HO_a1 rfl | apply HO_o1 rfl) | refine S5 ?_ | (intro hb; try replace hb := simB hb; try exact kill hb))
  refine HC_cond rfl rfl (fun hb => ?_) (fun hb => by exfalso; simp only [Bool.or_eq_false_iff, decide_eq_false_iff_not] at hb; omega)
  repeat' (first | refine SW ?_ | exact HO_seg rfl rfl | refine S1 ?_ | (refine S2 ?_; intro _) | (refine S3 ?_; intro _ _) | (refine S4 ?_; intro _ _ _) | (refine HO_g 2 rfl ?_; first | apply HO_a1 rfl | apply HO_o1 rfl) | refine S5 ?_ | (intro hb; try replace hb := simB hb; try exact kill hb))
  (refine SRt ?_; unfold RetQ; refine ⟨(), trivial, ?_, Keeps.nil⟩)
  rfl
 refine Tri_of (N := Tryz.f27.ntmps) (c := bodyOf Tryz.f27) Tryz.func27 rfl rfl rfl rfl (fun w0 S0 => ?_)
 dsimp only [AttS.ro, AttS.e]
 repeat' (first | refine SW ?_ | refine SD ?_ | exact HO_seg rfl rfl | refine S1 ?_ | (refine S2 ?_; intro _) | (refine S3 ?_; intro _ _) | (refine S4 ?_; intro _ _ _) | (refine HO_g 2 rfl ?_; first | apply HO_a1 rfl | apply HO_o1 rfl) | refine S5 ?_ | (intro hb; try replace hb := simB hb; try exact kill hb))
 rename_i b1
 refine HC_loop (α := Nat) (fun j => j ≤ a.path.length ∧ ∀ s ∈ a.path.take j, decide (200 < s.ns.length) = false) (fun j => [(3, .int .i64 j), (1, pt b1)]) (fun _ => [cel b1 52 a.e]) (fun j => a.path.length - j) rfl 0 ⟨Nat.zero_le _, fun s hs => by simp at hs⟩ ⟨rfl, rfl, trivial⟩ rfl ?_
 intro j ⟨hj, hno⟩
 dsimp only [pt, AttS.e]
 rcases Nat.lt_or_ge j a.path.length with hlt | hge
 ·obtain ⟨s, hs0⟩ : ∃ s, a.path[j]? = some s := ⟨a.path[j], List.getElem?_eq_getElem hlt⟩
  have hsm := List.mem_of_getElem? hs0
  by_cases h2 : 200 < s.ns.length
  ·repeat' (first | refine SW ?_ | refine SD ?_ | exact HO_seg rfl rfl | refine S1 ?_ | (refine S2 ?_; intro _) | (refine S3 ?_; intro _ _) | (refine S4 ?_; intro _ _ _) | (refine HO_g 2 rfl ?_; first | apply HO_a1 rfl | apply HO_o1 rfl) | refine S5 ?_ | (intro hb; try replace hb := simB hb; try exact kill hb))
   (refine SRt ?_; unfold RetQ; refine ⟨(), trivial, ?_, Keeps.nil⟩)
   refine congrArg Value.bool (Eq.symm ?_)
   unfold largeB
   rw [List.any_eq_true.2 ⟨s, hsm, decide_eq_true h2⟩, Bool.or_true]
  ·repeat' (first | refine SW ?_ | refine SD ?_ | exact HO_seg rfl rfl | refine S1 ?_ | (refine S2 ?_; intro _) | (refine S3 ?_; intro _ _) | (refine S4 ?_; intro _ _ _) | (refine HO_g 2 rfl ?_; first | apply HO_a1 rfl | apply HO_o1 rfl) | refine S5 ?_ | (intro hb; try replace hb := simB hb; try exact kill hb))
   exact HX_at (j + 1) ⟨⟨hlt, fun m hm => by
    rw [List.take_add_one, hs0, List.mem_append] at hm
    rcases hm with hm | hm
    ·exact hno m hm
    ·simp at hm; rw [hm]; exact decide_eq_false h2⟩, by omega⟩ ⟨rfl, rfl, trivial⟩ rfl
 ·obtain rfl : j = a.path.length := by omega
  rw [List.take_length] at hno
  repeat' (first | refine SW ?_ | refine SD ?_ | exact HO_seg rfl rfl | refine S1 ?_ | (refine S2 ?_; intro _) | (refine S3 ?_; intro _ _) | (refine S4 ?_; intro _ _ _) | (refine HO_g 2 rfl ?_; first | apply HO_a1 rfl | apply HO_o1 rfl) | refine S5 ?_ | (intro hb; try replace hb := simB hb; try exact kill hb))
  (refine SRt ?_; unfold RetQ; refine ⟨(), trivial, ?_, Keeps.nil⟩)
  refine congrArg Value.bool (Eq.symm ?_)
  unfold largeB
  rw [List.any_eq_false.2 fun s hs => by rw [hno s hs]; decide, decide_eq_false (by omega), decide_eq_false (by omega)]
  rfl
theorem path_of {a : AttS} (h : largeB a = false) : a.path.length ≤ 1000000 ∧ ∀ s ∈ a.path, s.ns.length ≤ 1000000 := by
 obtain ⟨h1, h2, h3⟩ := large_lim h
 exact ⟨by omega, fun s hs => by have := h3 s hs; omega⟩
set_option maxHeartbeats 1000000000 in
theorem same33_t (A B : Option Addr) (c d : Nat) (l r : List RoQ) (hl : l.length ≤ 1000000) : Tri Tryz.prog 90 [.slice A l.length c, .slice B r.length d] [arr RoQ.e 4 A l, arr RoQ.e 4 B r] [] (fun _ : Unit => True) (fun _ => .bool (decide (l = r))) (fun _ => []) := by
 by_cases hn : l.length = r.length
 ·have hz : ¬ ¬ ((l.length : Int) = (r.length : Int)) := by omega
  have hz2 : ((l.length : Int) = (r.length : Int)) := by omega
  refine Tri_of (N := Tryz.f90.ntmps) (c := bodyOf Tryz.f90) Tryz.func90 rfl rfl rfl rfl (fun w0 S0 => ?_)
  repeat' (first | refine SW ?_ | refine SD ?_ | exact HO_seg rfl rfl | refine S1 ?_ | (refine S2 ?_; intro _) | (refine S3 ?_; intro _ _) | (refine S4 ?_; intro _ _ _) | (refine HO_g 2 rfl ?_; first | apply HO_a1 rfl | apply HO_o1 rfl) | refine S5 ?_ | (intro hb; try replace hb := simB hb; try exact kill hb))
  refine HC_loop (α := Nat) (fun i => i ≤ l.length ∧ l.take i = r.take i) (fun i => [(5, .int .i64 i), (1, .slice B r.length d), (0, .slice A l.length c)]) (fun _ => []) (fun i => l.length - i) rfl 0 ⟨Nat.zero_le _, rfl⟩ ⟨rfl, rfl, rfl, trivial⟩ rfl ?_
  rintro i ⟨hi, he⟩
  rcases Nat.lt_or_ge i l.length with hlt | hge
  ·obtain ⟨x, hx⟩ : ∃ x, l[i]? = some x := ⟨l[i], List.getElem?_eq_getElem hlt⟩
   obtain ⟨y, hy⟩ : ∃ y, r[i]? = some y := ⟨r[i]'(by omega), List.getElem?_eq_getElem (by omega)⟩
   by_cases hxy : x = y
   ·repeat' (first | refine SW ?_ | refine SD ?_ | (refine HO_k 0 rfl ?_; refine HO_eqd (b := true) (r := false) rfl rfl rfl ((ro_eq x y).trans (congrArg some (decide_eq_true hxy))) rfl rfl rfl rdA ?_) | exact HO_seg rfl rfl | refine S1 ?_ | (refine S2 ?_; intro _) | (refine S3 ?_; intro _ _) | (refine S4 ?_; intro _ _ _) | (refine HO_g 2 rfl ?_; first | apply HO_a1 rfl | apply HO_o1 rfl) | refine S5 ?_ | (intro hb; try replace hb := simB hb; try exact kill hb))
    exact HX_at (i + 1) ⟨⟨hlt, by show l.take (i + 1) = r.take (i + 1); rw [take_snoc hx, take_snoc hy, he, hxy]⟩, by show l.length - (i + 1) < l.length - i; omega⟩ ⟨rfl, rfl, rfl, trivial⟩ rfl
   ·have hne : l ≠ r := fun h => hxy (by rw [h, hy] at hx; injection hx with h; exact h.symm)
    rw [decide_eq_false hne]
    repeat' (first | refine SW ?_ | refine SD ?_ | (refine HO_k 0 rfl ?_; refine HO_eqd (b := false) (r := true) rfl rfl rfl ((ro_eq x y).trans (congrArg some (decide_eq_false hxy))) rfl rfl rfl rdA ?_) | exact HO_seg rfl rfl | refine S1 ?_ | (refine S2 ?_; intro _) | (refine S3 ?_; intro _ _) | (refine S4 ?_; intro _ _ _) | (refine HO_g 2 rfl ?_; first | apply HO_a1 rfl | apply HO_o1 rfl) | refine S5 ?_ | (intro hb; try replace hb := simB hb; try exact kill hb))
    (refine SRt ?_; unfold RetQ; refine ⟨(), trivial, ?_, Keeps.nil⟩)
    rfl
  ·obtain rfl : i = l.length := by omega
   rw [List.take_length, hn, List.take_length] at he
   rw [decide_eq_true he]
   repeat' (first | refine SW ?_ | refine SD ?_ | exact HO_seg rfl rfl | refine S1 ?_ | (refine S2 ?_; intro _) | (refine S3 ?_; intro _ _) | (refine S4 ?_; intro _ _ _) | (refine HO_g 2 rfl ?_; first | apply HO_a1 rfl | apply HO_o1 rfl) | refine S5 ?_ | (intro hb; try replace hb := simB hb; try exact kill hb))
   (refine SRt ?_; unfold RetQ; refine ⟨(), trivial, ?_, Keeps.nil⟩)
   rfl
 ·have hne : l ≠ r := fun h => hn (by rw [h])
  have hz : ¬ ((l.length : Int) = (r.length : Int)) := by omega
  rw [decide_eq_false hne]
  refine Tri_of (N := Tryz.f90.ntmps) (c := bodyOf Tryz.f90) Tryz.func90 rfl rfl rfl rfl (fun w0 S0 => ?_)
  repeat' (first | refine SW ?_ | refine SD ?_ | exact HO_seg rfl rfl | refine S1 ?_ | (refine S2 ?_; intro _) | (refine S3 ?_; intro _ _) | (refine S4 ?_; intro _ _ _) | (refine HO_g 2 rfl ?_; first | apply HO_a1 rfl | apply HO_o1 rfl) | refine S5 ?_ | (intro hb; try replace hb := simB hb; try exact kill hb))
  (refine SRt ?_; unfold RetQ; refine ⟨(), trivial, ?_, Keeps.nil⟩)
  rfl
end Go.Proofs.YtbhiojedmkcfoaaGreatDoor
