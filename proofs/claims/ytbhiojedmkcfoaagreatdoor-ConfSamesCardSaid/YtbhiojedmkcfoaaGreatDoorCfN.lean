/- Numbers as texts of up to sixteen digits. -/
import Derived.Test.YtbhiojedmkcfoaaGreatDoorAdP
namespace Go.Proofs.YtbhiojedmkcfoaaGreatDoor
set_option linter.unusedVariables false
set_option linter.unusedSimpArgs false
open Go.RowKit

/-- a number's digits -/
@[reducible] def decD (n : Nat) : List UInt8 := Lib.decDigits n
/-- the number of a text of one to sixteen digits -/
def numR (l : List UInt8) : Option Nat := if l.length < 1 ∨ 16 < l.length ∨ (l.head? = some 48 ∧ 1 < l.length) then none else digs 0 l
theorem decD_lt (n : Nat) (h : n < 10) : decD n = [UInt8.ofNat (48 + n)] := by
  unfold decD
  rw [Lib.decDigits, dif_pos h]
theorem decD_ge (n : Nat) (h : 10 ≤ n) : decD n = decD (n / 10) ++ [UInt8.ofNat (48 + n % 10)] := by
  unfold decD
  conv => lhs; rw [Lib.decDigits, dif_neg (by omega)]
theorem digs_snoc : ∀ (l : List UInt8) (a : Nat) (b : UInt8), digs a (l ++ [b]) = match digs a l with
    | none => none
    | some m => if 48 ≤ b.toNat ∧ b.toNat ≤ 57 then some (10 * m + (b.toNat - 48)) else none
  | [], a, b => by simp [digs]
  | x :: l, a, b => by
    simp only [List.cons_append, digs]
    split
    · exact digs_snoc l _ b
    · rfl
theorem digit_nat (d : Nat) (h : d < 10) : (UInt8.ofNat (48 + d)).toNat = 48 + d := by
  simp
  omega
theorem decD_ne (n : Nat) : decD n ≠ [] := by
  by_cases h : n < 10
  · rw [decD_lt n h]; simp
  · rw [decD_ge n (by omega)]; simp
theorem decD_digs : ∀ n : Nat, digs 0 (decD n) = some n := by
  intro n
  induction n using Nat.strongRecOn with
  | _ n ih =>
    by_cases h : n < 10
    · rw [decD_lt n h]
      simp only [digs]
      rw [digit_nat n h, if_pos (by omega)]
      congr 1
      omega
    · rw [decD_ge n (by omega), digs_snoc, ih (n / 10) (by omega)]
      simp only
      rw [digit_nat _ (by omega), if_pos (by omega)]
      congr 1
      omega
theorem decD_head : ∀ n : Nat, n ≠ 0 → (decD n).head? ≠ some 48 := by
  intro n
  induction n using Nat.strongRecOn with
  | _ n ih =>
    intro hn
    by_cases h : n < 10
    · rw [decD_lt n h]
      simp only [List.head?_cons]
      intro e
      have := congrArg UInt8.toNat (Option.some.inj e)
      rw [digit_nat n h] at this
      simp at this
      omega
    · rw [decD_ge n (by omega)]
      have := ih (n / 10) (by omega) (by omega)
      rw [List.head?_append]
      cases hd : (decD (n / 10)).head? with
      | none => exact absurd (List.head?_eq_none_iff.1 hd) (decD_ne _)
      | some x =>
        rw [hd] at this
        simpa using this
theorem decD_len : ∀ (k n : Nat), n < 10 ^ (k + 1) → (decD n).length ≤ k + 1
  | 0, n, h => by
    rw [decD_lt n (by simpa using h)]
    simp
  | k + 1, n, h => by
    by_cases h1 : n < 10
    · rw [decD_lt n h1]
      simp
    · rw [decD_ge n (by omega), List.length_append]
      have := decD_len k (n / 10) (by rw [Nat.pow_succ] at h; omega)
      simp
      omega
theorem numR_decD (n : Nat) (h : n < 10000000000000000) : numR (decD n) = some n := by
  unfold numR
  have h1 := decD_len 15 n h
  have h2 : 0 < (decD n).length := List.length_pos_iff.2 (decD_ne n)
  have h3 : ¬ ((decD n).head? = some 48 ∧ 1 < (decD n).length) := by
    rintro ⟨a, b⟩
    by_cases h0 : n = 0
    · subst h0
      rw [decD_lt 0 (by decide)] at b
      simp at b
    · exact decD_head n h0 a
  rw [if_neg (by rintro (a | a | a); omega; omega; exact h3 a)]
  exact decD_digs n
theorem digs_dec : ∀ (k : Nat) (l : List UInt8) (n : Nat), l.length = k → digs 0 l = some n → l ≠ [] → ¬ (l.head? = some 48 ∧ 1 < l.length) → decD n = l := by
  intro k
  induction k with
  | zero => intro l n hl _ hne _; exact absurd (List.eq_nil_of_length_eq_zero hl) hne
  | succ k ih =>
    intro l n hl h hne hz
    obtain ⟨l', b, rfl⟩ : ∃ l' b, l = l' ++ [b] := ⟨l.dropLast, l.getLast hne, (List.dropLast_concat_getLast hne).symm⟩
    rw [digs_snoc] at h
    cases hd : digs 0 l' with
    | none => rw [hd] at h; cases h
    | some m =>
      rw [hd] at h
      simp only at h
      split at h
      · rename_i hb
        injection h with h
        have hbe : UInt8.ofNat (48 + (b.toNat - 48)) = b := by
          rw [show 48 + (b.toNat - 48) = b.toNat by omega]
          simp
        by_cases hl0 : l' = []
        · subst hl0
          simp [digs] at hd
          subst hd
          rw [← h, decD_lt _ (by omega), show 10 * 0 + (b.toNat - 48) = b.toNat - 48 by omega, hbe]
          rfl
        · have hh : (l' ++ [b]).head? = l'.head? := by
            cases l' with
            | nil => exact absurd rfl hl0
            | cons x l' => rfl
          have hlen : 1 < (l' ++ [b]).length := by
            have := List.length_pos_iff.2 hl0
            simp
            omega
          have hm := ih l' m (by simpa using hl) hd hl0 (fun ⟨a, _⟩ => hz ⟨by rw [hh]; exact a, hlen⟩)
          have hm0 : m ≠ 0 := by
            intro e
            subst e
            rw [decD_lt 0 (by decide)] at hm
            subst hm
            exact hz ⟨rfl, hlen⟩
          have h1 : n / 10 = m := by omega
          have h2 : n % 10 = b.toNat - 48 := by omega
          rw [decD_ge n (by omega), h1, h2, hm, hbe]
      · cases h
theorem numR_dec {l : List UInt8} {n : Nat} (h : numR l = some n) : decD n = l := by
  unfold numR at h
  split at h
  · cases h
  · rename_i hc
    exact digs_dec l.length l n rfl h (fun e => hc (.inl (by rw [e]; simp))) (fun e => hc (.inr (.inr e)))
theorem numR_lt {l : List UInt8} {n : Nat} (h : numR l = some n) : n < 10000000000000000 := by
  unfold numR at h
  split at h
  · cases h
  · have := digs_lt l 0 n h
    have hp : 10 ^ l.length ≤ 10 ^ 16 := Nat.pow_le_pow_right (by decide) (by omega)
    omega
theorem decD_dig (n : Nat) : ∀ x ∈ decD n, 48 ≤ x.toNat ∧ x.toNat ≤ 57 := by
  induction n using Nat.strongRecOn with
  | _ n ih =>
    intro x hx
    by_cases h : n < 10
    · rw [decD_lt n h] at hx
      simp only [List.mem_singleton] at hx
      subst hx
      rw [digit_nat n h]
      omega
    · rw [decD_ge n (by omega)] at hx
      rcases List.mem_append.1 hx with h1 | h1
      · exact ih (n / 10) (by omega) x h1
      · simp only [List.mem_singleton] at h1
        subst h1
        rw [digit_nat _ (by omega)]
        omega
/-- of three digits at most -/
theorem smR_dec {l : List UInt8} {n : Nat} (h : smR l = some n) : decD n = l := by
  unfold smR at h
  split at h
  · cases h
  · rename_i hc
    exact digs_dec l.length l n rfl h (fun e => hc (.inl (by rw [e]; simp))) (fun e => hc (.inr (.inr e)))
end Go.Proofs.YtbhiojedmkcfoaaGreatDoor
