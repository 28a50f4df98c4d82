/- Sets kept as maps: how many keys there are; how long lists without doubles are told. -/
import Derived.Test.YtbhiojedmkcfoaaGreatDoorKc
import Derived.Test.YtbhiojedmkcfoaaGreatDoorCfP
namespace Go.Proofs.YtbhiojedmkcfoaaGreatDoor
set_option linter.unusedVariables false
set_option linter.unusedSimpArgs false
open Go.RowKit

theorem snocI {α : Type} {motive : List α → Prop} (nil : motive []) (append_singleton : ∀ l a, motive l → motive (l ++ [a])) (l : List α) : motive l := by
  have h : ∀ r : List α, motive r.reverse := by
    intro r
    induction r with
    | nil => exact nil
    | cons a r ih => rw [List.reverse_cons]; exact append_singleton _ a ih
  have := h l.reverse
  rwa [List.reverse_reverse] at this
/-- the keys that were set -/
def setL {κ : Type} [DecidableEq κ] (l : List κ) : List (κ × Bool) := l.foldl (fun m k => stL k true m) []
theorem setL_snoc {κ : Type} [DecidableEq κ] (l : List κ) (k : κ) : setL (l ++ [k]) = stL k true (setL l) := by simp [setL]
theorem stL_keys {κ ν : Type} [DecidableEq κ] (k : κ) (v : ν) : ∀ m : List (κ × ν), (∀ x, x ∈ (stL k v m).map (·.1) ↔ x = k ∨ x ∈ m.map (·.1)) ∧ (stL k v m).length = if k ∈ m.map (·.1) then m.length else m.length + 1
  | [] => by simp [stL]
  | y :: m => by
    obtain ⟨h1, h2⟩ := stL_keys k v m
    unfold stL
    by_cases hk : k = y.1
    · rw [if_pos hk]
      constructor
      · intro x
        simp only [List.map_cons, List.mem_cons, ← hk]
        constructor
        · rintro (h | h)
          · exact .inl h
          · exact .inr (.inr h)
        · rintro (h | h | h)
          · exact .inl h
          · exact .inl h
          · exact .inr h
      · rw [if_pos (by simp [hk])]
        rfl
    · rw [if_neg hk]
      constructor
      · intro x
        simp only [List.map_cons, List.mem_cons]
        rw [h1 x]
        constructor
        · rintro (h | h | h)
          · exact .inr (.inl h)
          · exact .inl h
          · exact .inr (.inr h)
        · rintro (h | h | h)
          · exact .inr (.inl h)
          · exact .inl h
          · exact .inr (.inr h)
      · simp only [List.length_cons, h2, List.map_cons, List.mem_cons, hk, false_or]
        split <;> rfl
theorem setL_keys {κ : Type} [DecidableEq κ] (l : List κ) : ∀ x, x ∈ (setL l).map (·.1) ↔ x ∈ l := by
  induction l using snocI with
  | nil => intro x; simp [setL]
  | append_singleton l k ih =>
    intro x
    rw [setL_snoc, (stL_keys k true (setL l)).1 x, ih x]
    simp [or_comm]
theorem setL_len {κ : Type} [DecidableEq κ] (l : List κ) (k : κ) : (setL (l ++ [k])).length = if k ∈ l then (setL l).length else (setL l).length + 1 := by
  rw [setL_snoc, (stL_keys k true (setL l)).2]
  by_cases h : k ∈ l
  · rw [if_pos ((setL_keys l k).2 h), if_pos h]
  · rw [if_neg (fun e => h ((setL_keys l k).1 e)), if_neg h]
theorem setL_nodup {κ : Type} [DecidableEq κ] (l : List κ) : (setL l).length ≤ l.length ∧ ((setL l).length = l.length ↔ l.Nodup) := by
  induction l using snocI with
  | nil => simp [setL]
  | append_singleton l k ih =>
    rw [setL_len]
    simp only [List.length_append, List.length_cons, List.length_nil]
    by_cases h : k ∈ l
    · rw [if_pos h]
      refine ⟨by omega, ⟨fun e => by omega, fun e => ?_⟩⟩
      rw [List.nodup_append] at e
      exact absurd rfl (e.2.2 k h k (List.mem_singleton.2 rfl))
    · rw [if_neg h]
      refine ⟨by omega, ⟨fun e => ?_, fun e => ?_⟩⟩
      · rw [List.nodup_append]
        exact ⟨ih.2.1 (by omega), by simp, fun a ha b hb e => h (by rw [List.mem_singleton.1 hb] at e; exact e ▸ ha)⟩
      · rw [List.nodup_append] at e
        have := ih.2.2 e.1
        omega
theorem setL_lt {κ : Type} [DecidableEq κ] (l : List κ) : decide (((setL l).length : Int) < l.length) = !decide l.Nodup := by
  obtain ⟨h1, h2⟩ := setL_nodup l
  by_cases h : l.Nodup
  · rw [decide_eq_true h, decide_eq_false (by have := h2.2 h; omega)]
    rfl
  · rw [decide_eq_false h, decide_eq_true (by have : (setL l).length ≠ l.length := fun e => h (h2.1 e); omega)]
    rfl
theorem nodup_take {α : Type} (l : List α) (i : Nat) (x : α) (hx : l[i]? = some x) : (l.take (i + 1)).Nodup ↔ (l.take i).Nodup ∧ ∀ (k : Nat) (y : α), k < i → l[k]? = some y → y ≠ x := by
  have e : l.take (i + 1) = l.take i ++ [x] := by rw [List.take_add_one, hx]; rfl
  rw [e, List.nodup_append]
  constructor
  · rintro ⟨h1, _, h3⟩
    exact ⟨h1, fun k y hk hy => h3 y (List.mem_of_getElem? (i := k) (by rw [List.getElem?_take_of_lt hk]; exact hy)) x (List.mem_singleton.2 rfl)⟩
  · rintro ⟨h1, h3⟩
    refine ⟨h1, by simp, fun a ha b hb => ?_⟩
    rw [List.mem_singleton.1 hb]
    obtain ⟨k, hk⟩ := List.getElem?_of_mem ha
    have hki : k < i := by
      have := (List.getElem?_eq_some_iff.1 hk).1
      rw [List.length_take] at this
      omega
    rw [List.getElem?_take_of_lt hki] at hk
    exact h3 k a hki hk
end Go.Proofs.YtbhiojedmkcfoaaGreatDoor
