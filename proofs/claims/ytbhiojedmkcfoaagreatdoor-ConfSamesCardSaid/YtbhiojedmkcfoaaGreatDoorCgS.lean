/- The text of settings, line by line, and how long it is: plain. -/
import Derived.Test.YtbhiojedmkcfoaaGreatDoorCgP
import Derived.Test.YtbhiojedmkcfoaaGreatDoorAdV
namespace Go.Proofs.YtbhiojedmkcfoaaGreatDoor
set_option linter.unusedVariables false
set_option linter.unusedSimpArgs false
open Go.RowKit
attribute [local irreducible] HC HX HO Tri eP adr

theorem txt_app (a b : List (List UInt8)) : txt (a ++ b) = txt a ++ txt b := by unfold txt; rw [List.flatMap_append]
theorem txt_take {ls : List (List UInt8)} {k : Nat} {x : List UInt8} (h : ls[k]? = some x) : txt (ls.take (k + 1)) = txt (ls.take k) ++ (x ++ [10]) := by
  rw [List.take_add_one, h, txt_app]
  simp [txt]
theorem txt_len : ∀ (ls : List (List UInt8)) (b : Nat), (∀ x ∈ ls, x.length ≤ b) → (txt ls).length ≤ (b + 1) * ls.length
  | [], b, _ => by simp [txt]
  | x :: ls, b, h => by
    have ih := txt_len ls b (fun y hy => h y (List.mem_cons_of_mem _ hy))
    have hx := h x List.mem_cons_self
    rw [show txt (x :: ls) = (x ++ [10]) ++ txt ls from by simp [txt], List.length_append, List.length_append]
    have hm : (b + 1) * (ls.length + 1) = (b + 1) * ls.length + (b + 1) := Nat.mul_succ _ _
    simp only [List.length_cons, List.length_nil]
    omega
theorem shoS_len9 (a : Nat) (n : Int) : (shoS a n).length ≤ 19 := by
  unfold shoS
  split
  · have h1 := dotS_len a
    have h2 := dec3_len n.toNat
    simp only [List.length_append, List.length_cons]
    omega
  · decide
theorem word_len (i : Nat) : (wordsL.getD i []).length ≤ 8 := by
  rcases Nat.lt_or_ge i 18 with h | h
  · have h1 : ((List.range 18).all fun i => decide ((wordsL.getD i []).length ≤ 8)) = true := by decide +kernel
    exact of_decide_eq_true (List.all_eq_true.1 h1 i (List.mem_range.2 h))
  · rw [List.getD_eq_getElem?_getD, List.getElem?_eq_none (by exact h)]
    exact Nat.zero_le _
theorem decI_len {n : Int} (h : 0 ≤ n ∧ n < 10000000000000000) : (decD n.toNat).length ≤ 16 := decD_len 15 n.toNat (by omega)
theorem fixL_len (c : CfQ) (hok : cfOk c = true) (i : Nat) (hi : i < 18) : (fixL c i).length ≤ 30 := by
  unfold fixL
  have h1 := word_len i
  have h2 := dotS_len c.id
  rw [List.length_append, List.length_cons]
  split
  · omega
  · rename_i h
    have h3 := decI_len (cfOk_nums hok i hi h)
    omega
theorem if_nums {c : CfQ} (hok : cfOk c = true) {x : IfQ} (hx : x ∈ c.ifs) : (0 ≤ x.id ∧ x.id < 10000000000000000) ∧ (0 ≤ x.router ∧ x.router < 10000000000000000) ∧ (0 ≤ x.cap ∧ x.cap < 10000000000000000) := by
  have h := (cfOk_parts hok).1
  unfold ifsOk at h
  simp only [Bool.and_eq_true, decide_eq_true_eq, List.all_eq_true] at h
  have h1 := h.2.2.2 x hx
  unfold ifOk at h1
  simp only [Bool.and_eq_true, within_iff] at h1
  omega
theorem deny_nums {c : CfQ} (hok : cfOk c = true) {n : Int} (hn : n ∈ c.deny) : 0 ≤ n ∧ n < 10000000000000000 := by
  have h := (cfOk_parts hok).2.1
  have h1 := List.all_eq_true.1 h n hn
  rw [within_iff] at h1
  omega
theorem ifL_len {x : IfQ} (h : (0 ≤ x.id ∧ x.id < 10000000000000000) ∧ (0 ≤ x.router ∧ x.router < 10000000000000000) ∧ (0 ≤ x.cap ∧ x.cap < 10000000000000000)) : (ifL x).length ≤ 100 := by
  have h1 := decI_len h.1
  have h2 := decI_len h.2.1
  have h3 := decI_len h.2.2
  have h4 := shoS_len9 x.a x.n
  unfold ifL
  simp only [List.length_append, List.length_cons]
  have : ifaceW.length = 5 := rfl
  omega
theorem line_len (c : CfQ) (hok : cfOk c = true) : ∀ x ∈ linesOf c, x.length ≤ 100 := by
  intro x hx
  unfold linesOf at hx
  rcases List.mem_append.1 hx with h | h
  · rcases List.mem_append.1 h with h | h
    · obtain ⟨i, hi, rfl⟩ := List.mem_map.1 h
      have := fixL_len c hok i (List.mem_range.1 hi)
      omega
    · obtain ⟨z, hz, rfl⟩ := List.mem_map.1 h
      exact ifL_len (if_nums hok hz)
  · obtain ⟨z, hz, rfl⟩ := List.mem_map.1 h
    have := decI_len (deny_nums hok hz)
    unfold denyL
    rw [List.length_append, List.length_cons]
    have : denyW.length = 4 := rfl
    omega
theorem linesOf_len (c : CfQ) : (linesOf c).length = 18 + c.ifs.length + c.deny.length := by simp [linesOf]; omega
theorem text_len (c : CfQ) (hok : cfOk c = true) (k : Nat) : (txt ((linesOf c).take k)).length ≤ 40000 := by
  have h1 := txt_len ((linesOf c).take k) 100 (fun x hx => line_len c hok x (List.mem_of_mem_take hx))
  have h2 := cfOk_parts hok
  have h3 := linesOf_len c
  have h4 : ((linesOf c).take k).length ≤ (linesOf c).length := List.length_take_le' _ _
  omega
theorem lines_if (c : CfQ) {j : Nat} {x : IfQ} (h : c.ifs[j]? = some x) : (linesOf c)[18 + j]? = some (ifL x) := by
  unfold linesOf
  have hlt := (List.getElem?_eq_some_iff.1 h).1
  rw [List.append_assoc, List.getElem?_append_right (by simp), List.getElem?_append_left (by simp <;> omega)]
  simp only [List.length_map, List.length_range, Nat.add_sub_cancel_left]
  rw [List.getElem?_map, h]
  rfl
theorem lines_deny (c : CfQ) {j : Nat} {n : Int} (h : c.deny[j]? = some n) : (linesOf c)[18 + c.ifs.length + j]? = some (denyL n) := by
  unfold linesOf
  rw [List.getElem?_append_right (by simp <;> omega)]
  simp only [List.length_append, List.length_map, List.length_range]
  rw [show 18 + c.ifs.length + j - (18 + c.ifs.length) = j by omega, List.getElem?_map, h]
  rfl
end Go.Proofs.YtbhiojedmkcfoaaGreatDoor
