/- Part of a proof of many texts: what the theorem at its end leans on. -/
import Derived.Test.YtbhiojedmkcfoaaGreatDoorZCfF
import Derived.Test.YtbhiojedmkcfoaaGreatDoorZAdV
namespace Go.Proofs.YtbhiojedmkcfoaaGreatDoor
set_option linter.unusedVariables false
set_option linter.unusedSimpArgs false
open Go.RowKit
attribute [local irreducible] HC HX HO Tri eP adr
theorem splB_snoc (c : UInt8) : ∀ t : List UInt8, splB c (t ++ [c]) = splB c t ++ [[]]
 | [] => by simp [splB]
 | x :: t => by
  have ih := splB_snoc c t
  rw [List.cons_append]
  unfold splB
  by_cases hx : x = c
  ·rw [if_pos hx, if_pos hx, ih]; rfl
  ·rw [if_neg hx, if_neg hx, ih]
   cases hs : splB c t with
   | nil => exact absurd hs (splB_ne _ _)
   | cons y r => rfl
theorem splB_last (c : UInt8) : ∀ s : List UInt8, (splB c s).getLast? = some [] → s = [] ∨ s.getLast? = some c
 | [], _ => .inl rfl
 | x :: s, h => by
  right
  unfold splB at h
  by_cases hx : x = c
  ·rw [if_pos hx] at h
   have h1 : (splB c s).getLast? = some [] := by
    cases hs : splB c s with
    | nil => exact absurd hs (splB_ne _ _)
    | cons y r => rw [hs, List.getLast?_cons_cons] at h; exact h
   rcases splB_last c s h1 with e | e
   ·subst e; rw [hx]; rfl
   ·rw [List.getLast?_cons, e]; rfl
  ·rw [if_neg hx] at h
   cases hs : splB c s with
   | nil => exact absurd hs (splB_ne _ _)
   | cons y r =>
    rw [hs] at h
    cases r with
    | nil => simp at h
    | cons z r =>
     simp only [List.getLast?_cons_cons] at h
     have h1 : (splB c s).getLast? = some [] := by rw [hs, List.getLast?_cons_cons]; exact h
     rcases splB_last c s h1 with e | e
     ·subst e; simp [splB] at hs
     ·rw [List.getLast?_cons, e]; rfl
def okE (o : Option CfQ) : Option CfQ := match o with
 | none => none
 | some c => if cfOk c = true then some c else none
theorem parL_ok {ls : List (List UInt8)} (h : 18 ≤ ls.length) : parL ls = okE (linesM 0 ls cf0) := by
 unfold parL okE
 rw [if_neg (by omega)]
 rfl
theorem parL_few {ls : List (List UInt8)} (h : ls.length < 18) : parL ls = none := by unfold parL; rw [if_pos h]
theorem parM_ref (s : List UInt8) : parM s = if (splB 10 s).length < 19 ∨ (splB 10 s).getLast? ≠ some [] then none else okE (linesM 0 (splB 10 s).dropLast cf0) := by
 unfold parM
 by_cases hl : s.getLast? = some 10
 ·rw [if_pos hl]
  have hne : s ≠ [] := by intro e; subst e; cases hl
  have e : s = s.dropLast ++ [10] := by
   have := List.dropLast_concat_getLast hne
   rw [List.getLast?_eq_some_getLast hne] at hl
   injection hl with hl
   rw [hl] at this
   exact this.symm
  have e2 : splB 10 s = splB 10 s.dropLast ++ [[]] := by conv => lhs; rw [e, splB_snoc]
  rw [e2]
  rcases Nat.lt_or_ge (splB 10 s.dropLast).length 18 with h | h
  ·rw [if_pos (.inl (by rw [List.length_append]; show _ + 1 < 19; omega)), parL_few h]
  ·rw [if_neg (by rw [List.length_append]; simp; omega), List.dropLast_concat, parL_ok h]
 ·rw [if_neg hl, if_pos]
  rcases Nat.lt_or_ge (splB 10 s).length 19 with h | h
  ·exact .inl h
  ·refine .inr fun hl2 => ?_
   rcases splB_last 10 s hl2 with e | e
   ·subst e; simp [splB] at h
   ·exact hl e
theorem moreM_count {ws : List (List UInt8)} {q q' : CfQ} (h : moreM ws q = some q') : q'.ifs.length + q'.deny.length = q.ifs.length + q.deny.length + 1 := by
 unfold moreM at h
 split at h
 ·split at h
  ·rename_i w v hw
   cases hv : numR v with
   | none => rw [hv] at h; cases h
   | some n => rw [hv] at h; injection h with h; subst h; simp; omega
  ·cases h
 ·split at h
  ·split at h
   ·injection h with h; subst h; simp; omega
   ·cases h
  ·cases h
 ·cases h
theorem linesM_count : ∀ (ls : List (List UInt8)) (i : Nat) (q q' : CfQ), 18 ≤ i → linesM i ls q = some q' → q'.ifs.length + q'.deny.length = q.ifs.length + q.deny.length + ls.length
 | [], i, q, q', _, h => by injection h with h; subst h; rfl
 | x :: ls, i, q, q', hi, h => by
  simp only [linesM] at h
  cases hx : lineM i x q with
  | none => rw [hx] at h; cases h
  | some q1 =>
   rw [hx] at h
   simp only at h
   have h1 := linesM_count ls (i + 1) q1 q' (by omega) h
   unfold lineM at hx
   rw [if_neg (by omega)] at hx
   have h2 := moreM_count hx
   simp only [List.length_cons]
   omega
theorem okE_many {ls : List (List UInt8)} {i : Nat} {q : CfQ} (hi : 18 ≤ i) (h : 272 < q.ifs.length + q.deny.length) : okE (linesM i ls q) = none := by
 cases hq : linesM i ls q with
 | none => rfl
 | some q' =>
  have h1 := linesM_count ls i q q' hi hq
  unfold okE
  simp only
  rw [if_neg]
  intro h2
  have h3 := cfOk_parts h2
  omega
def CfG (q : CfQ) : Prop := q.nums.length = 18 ∧ q.id < 4294967296 ∧ ∀ x ∈ q.ifs, x.a < 4294967296
theorem cf0_g : CfG cf0 := ⟨rfl, by decide, fun x hx => by cases hx⟩
theorem adR_lt' (v : List UInt8) : (adR v).getD 0 < 4294967296 := by
 cases h : adR v with
 | none => show (0 : Nat) < _; decide
 | some a => exact adR_lt h
theorem paR_lt' (v : List UInt8) : ((paR v).getD (0, 0)).1 < 4294967296 := by
 cases h : paR v with
 | none => show (0 : Nat) < _; decide
 | some a => obtain ⟨a, n⟩ := a; exact (paR_ok h).1
theorem lineX_g (i : Nat) (ws : List (List UInt8)) (q : CfQ) (bad : Bool) (h : CfG q) : CfG (lineX i ws q bad).1 := by
 obtain ⟨h1, h2, h3⟩ := h
 unfold lineX fixX CfQ.put
 split
 ·split
  ·split
   ·split
    ·exact ⟨h1, adR_lt' _, h3⟩
    ·exact ⟨by show (q.nums.set _ _).length = 18; rw [List.length_set]; exact h1, h2, h3⟩
   ·exact ⟨h1, h2, h3⟩
  ·exact ⟨h1, h2, h3⟩
 ·split
  ·split <;> exact ⟨h1, h2, h3⟩
  ·split
   ·refine ⟨h1, h2, fun x hx => ?_⟩
    rcases List.mem_append.1 hx with hx | hx
    ·exact h3 x hx
    ·rw [List.mem_singleton] at hx
     subst hx
     exact paR_lt' _
   ·exact ⟨h1, h2, h3⟩
  ·exact ⟨h1, h2, h3⟩
theorem lineX_len (i : Nat) (ws : List (List UInt8)) (q : CfQ) (bad : Bool) : (lineX i ws q bad).1.ifs.length ≤ q.ifs.length + 1 ∧ (lineX i ws q bad).1.deny.length ≤ q.deny.length + 1 := by
 unfold lineX fixX CfQ.put
 split
 ·split
  ·split
   ·split <;> simp
   ·simp
  ·simp
 ·split
  ·split <;> simp
  ·split <;> simp
  ·simp
theorem lineX_ok (i : Nat) (x : List UInt8) (q : CfQ) : lineM i x q = if (lineX i (splB 32 x) q false).2 = true then none else some (lineX i (splB 32 x) q false).1 := by
 unfold lineM
 by_cases h : i < 18
 ·rw [if_pos h, fixX_ok]
  unfold lineX
  rw [if_pos h]
 ·rw [if_neg h]
  exact moreX_ok i h _ q
theorem linesM_step {ls : List (List UInt8)} {i : Nat} {x : List UInt8} (hx : ls[i]? = some x) (q : CfQ) : linesM i (ls.drop i) q = if (lineX i (splB 32 x) q false).2 = true then none else linesM (i + 1) (ls.drop (i + 1)) (lineX i (splB 32 x) q false).1 := by
 obtain ⟨hlt, he⟩ := List.getElem?_eq_some_iff.1 hx
 rw [List.drop_eq_getElem_cons hlt, he]
 simp only [linesM]
 rw [lineX_ok]
 by_cases h : (lineX i (splB 32 x) q false).2 = true
 ·rw [if_pos h, if_pos h]
 ·rw [if_neg h, if_neg h]
theorem lineX_count {i : Nat} {ws : List (List UInt8)} {q : CfQ} (h : (lineX i ws q false).2 = false) : (lineX i ws q false).1.ifs.length + (lineX i ws q false).1.deny.length = q.ifs.length + q.deny.length + ((i + 1 - 18) - (i - 18)) := by
 by_cases hi : i < 18
 ·have e : lineX i ws q false = fixX i ws q false := by unfold lineX; rw [if_pos hi]
  have h1 : (fixX i ws q false).1.ifs = q.ifs ∧ (fixX i ws q false).1.deny = q.deny := by
   unfold fixX CfQ.put
   split
   ·split
    ·split <;> exact ⟨rfl, rfl⟩
    ·exact ⟨rfl, rfl⟩
   ·exact ⟨rfl, rfl⟩
  rw [e, h1.1, h1.2]
  omega
 ·have h1 := moreX_ok i hi ws q
  rw [h, if_neg (by decide)] at h1
  have h2 := moreM_count h1
  omega
def parS (s : List UInt8) (x : OA × OA) : CfS := match parM s with
 | some q => ⟨q, x.1.1, x.1.2, x.2.1, x.2.2⟩
 | none => ⟨cf0, none, 0, none, 0⟩
theorem parS_none {s : List UInt8} (h : parM s = none) (x : OA × OA) : parS s x = ⟨cf0, none, 0, none, 0⟩ := by unfold parS; rw [h]
theorem parS_some {s : List UInt8} {q : CfQ} (h : parM s = some q) (x : OA × OA) : parS s x = ⟨q, x.1.1, x.1.2, x.2.1, x.2.2⟩ := by unfold parS; rw [h]
theorem txt_app (a b : List (List UInt8)) : txt (a ++ b) = txt a ++ txt b := by unfold txt; rw [List.flatMap_append]
theorem txt_take {ls : List (List UInt8)} {k : Nat} {x : List UInt8} (h : ls[k]? = some x) : txt (ls.take (k + 1)) = txt (ls.take k) ++ (x ++ [10]) := by
 rw [List.take_add_one, h, txt_app]
 simp [txt]
theorem txt_len : ∀ (ls : List (List UInt8)) (b : Nat), (∀ x ∈ ls, x.length ≤ b) → (txt ls).length ≤ (b + 1) * ls.length
 | [], b, _ => by simp [txt]
 | x :: ls, b, h => by
  have ih := txt_len ls b (fun y hy => h y (List.mem_cons_of_mem _ hy))
  have hx := h x List.mem_cons_self
  rw [show txt (x :: ls) = (x ++ [10]) ++ txt ls from by simp [txt], List.length_append, List.length_append]
  have hm : (b + 1) * (ls.length + 1) = (b + 1) * ls.length + (b + 1) := Nat.mul_succ _ _
  simp only [List.length_cons, List.length_nil]
  omega
theorem shoS_len9 (a : Nat) (n : Int) : (shoS a n).length ≤ 19 := by
 unfold shoS
 split
 ·have h1 := dotS_len a
  have h2 := dec3_len n.toNat
  simp only [List.length_append, List.length_cons]
  omega
 ·decide
theorem word_len (i : Nat) : (wordsL.getD i []).length ≤ 8 := by
 rcases Nat.lt_or_ge i 18 with h | h
 ·have h1 : ((List.range 18).all fun i => decide ((wordsL.getD i []).length ≤ 8)) = true := by decide +kernel
  exact of_decide_eq_true (List.all_eq_true.1 h1 i (List.mem_range.2 h))
 ·rw [List.getD_eq_getElem?_getD, List.getElem?_eq_none (by exact h)]
  exact Nat.zero_le _
theorem decI_len {n : Int} (h : 0 ≤ n ∧ n < 10000000000000000) : (decD n.toNat).length ≤ 16 := decD_len 15 n.toNat (by omega)
theorem fixL_len (c : CfQ) (hok : cfOk c = true) (i : Nat) (hi : i < 18) : (fixL c i).length ≤ 30 := by
 unfold fixL
 have h1 := word_len i
 have h2 := dotS_len c.id
 rw [List.length_append, List.length_cons]
 split
 ·omega
 ·rename_i h
  have h3 := decI_len (cfOk_nums hok i hi h)
  omega
theorem if_nums {c : CfQ} (hok : cfOk c = true) {x : IfQ} (hx : x ∈ c.ifs) : (0 ≤ x.id ∧ x.id < 10000000000000000) ∧ (0 ≤ x.router ∧ x.router < 10000000000000000) ∧ (0 ≤ x.cap ∧ x.cap < 10000000000000000) := by
 have h := (cfOk_parts hok).1
 unfold ifsOk at h
 simp only [Bool.and_eq_true, decide_eq_true_eq, List.all_eq_true] at h
 have h1 := h.2.2.2 x hx
 unfold ifOk at h1
 simp only [Bool.and_eq_true, within_iff] at h1
 omega
theorem deny_nums {c : CfQ} (hok : cfOk c = true) {n : Int} (hn : n ∈ c.deny) : 0 ≤ n ∧ n < 10000000000000000 := by
 have h := (cfOk_parts hok).2.1
 have h1 := List.all_eq_true.1 h n hn
 rw [within_iff] at h1
 omega
theorem ifL_len {x : IfQ} (h : (0 ≤ x.id ∧ x.id < 10000000000000000) ∧ (0 ≤ x.router ∧ x.router < 10000000000000000) ∧ (0 ≤ x.cap ∧ x.cap < 10000000000000000)) : (ifL x).length ≤ 100 := by
 have h1 := decI_len h.1
 have h2 := decI_len h.2.1
 have h3 := decI_len h.2.2
 have h4 := shoS_len9 x.a x.n
 unfold ifL
 simp only [List.length_append, List.length_cons]
 have : ifaceW.length = 5 := rfl
 omega
theorem line_len (c : CfQ) (hok : cfOk c = true) : ∀ x ∈ linesOf c, x.length ≤ 100 := by
 intro x hx
 unfold linesOf at hx
 rcases List.mem_append.1 hx with h | h
 ·rcases List.mem_append.1 h with h | h
  ·obtain ⟨i, hi, rfl⟩ := List.mem_map.1 h
   have := fixL_len c hok i (List.mem_range.1 hi)
   omega
  ·obtain ⟨z, hz, rfl⟩ := List.mem_map.1 h
   exact ifL_len (if_nums hok hz)
 ·obtain ⟨z, hz, rfl⟩ := List.mem_map.1 h
  have := decI_len (deny_nums hok hz)
  unfold denyL
  rw [List.length_append, List.length_cons]
  have : denyW.length = 4 := rfl
  omega
theorem linesOf_len (c : CfQ) : (linesOf c).length = 18 + c.ifs.length + c.deny.length := by simp [linesOf]; omega
theorem text_len (c : CfQ) (hok : cfOk c = true) (k : Nat) : (txt ((linesOf c).take k)).length ≤ 40000 := by
 have h1 := txt_len ((linesOf c).take k) 100 (fun x hx => line_len c hok x (List.mem_of_mem_take hx))
 have h2 := cfOk_parts hok
 have h3 := linesOf_len c
 have h4 : ((linesOf c).take k).length ≤ (linesOf c).length := List.length_take_le' _ _
 omega
theorem lines_if (c : CfQ) {j : Nat} {x : IfQ} (h : c.ifs[j]? = some x) : (linesOf c)[18 + j]? = some (ifL x) := by
 unfold linesOf
 have hlt := (List.getElem?_eq_some_iff.1 h).1
 rw [List.append_assoc, List.getElem?_append_right (by simp), List.getElem?_append_left (by simp <;> omega)]
 simp only [List.length_map, List.length_range, Nat.add_sub_cancel_left]
 rw [List.getElem?_map, h]
 rfl
theorem lines_deny (c : CfQ) {j : Nat} {n : Int} (h : c.deny[j]? = some n) : (linesOf c)[18 + c.ifs.length + j]? = some (denyL n) := by
 unfold linesOf
 rw [List.getElem?_append_right (by simp <;> omega)]
 simp only [List.length_append, List.length_map, List.length_range]
 rw [show 18 + c.ifs.length + j - (18 + c.ifs.length) = j by omega, List.getElem?_map, h]
 rfl
end Go.Proofs.YtbhiojedmkcfoaaGreatDoor
