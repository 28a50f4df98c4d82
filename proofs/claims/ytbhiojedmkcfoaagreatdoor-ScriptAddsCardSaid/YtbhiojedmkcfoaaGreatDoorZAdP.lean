/- Part of a proof of many texts: what the theorem at its end leans on. -/
import Derived.Test.YtbhiojedmkcfoaaGreatDoorZAdS
import Derived.Test.YtbhiojedmkcfoaaGreatDoorZAd0
import Derived.Test.YtbhiojedmkcfoaaGreatDoorZKc
namespace Go.Proofs.YtbhiojedmkcfoaaGreatDoor
set_option linter.unusedVariables false
set_option linter.unusedSimpArgs false
open Go.RowKit
attribute [local irreducible] HC HX HO Tri eP adr
def digs : Nat → List UInt8 → Option Nat
 | n, [] => some n
 | n, b :: l => if 48 ≤ b.toNat ∧ b.toNat ≤ 57 then digs (10 * n + (b.toNat - 48)) l else none
def smR (l : List UInt8) : Option Nat := if l.length < 1 ∨ 3 < l.length ∨ (l.head? = some 48 ∧ 1 < l.length) then none else digs 0 l
def smM (m : Nat) (l : List UInt8) : Option Nat := match smR l with
 | none => none
 | some n => if n ≤ m then some n else none
def foldA : Nat → List (List UInt8) → Option Nat
 | a, [] => some a
 | a, x :: r => match smM 255 x with
  | none => none
  | some n => foldA (256 * a + n) r
def adR (l : List UInt8) : Option Nat := if (splB 46 l).length = 4 then foldA 0 (splB 46 l) else none
def paR (l : List UInt8) : Option (Nat × Nat) := if (cutC 47 l).2.2 = true then match adR (cutC 47 l).1, smM 32 (cutC 47 l).2.1 with
  | some a, some n => if okX a n = true then some (a, n) else none
  | _, _ => none
 else none
def paQ (l : List UInt8) : Option (Nat × Nat) := match splB 47 l with
 | [x, y] => match adR x, smM 32 y with
  | some a, some n => if okX a n = true then some (a, n) else none
  | _, _ => none
 | _ => none
def dots (a : Nat) : List (List UInt8) := [dec3 (a / 16777216 % 256), dec3 (a / 65536 % 256), dec3 (a / 256 % 256), dec3 (a % 256)]
def dotS (a : Nat) : List UInt8 := joinS (dots a)
def shoS (a : Nat) (n : Int) : List UInt8 := if okX a n = true then dotS a ++ 47 :: dec3 n.toNat else [63]
theorem splB_ne (c : UInt8) (l : List UInt8) : splB c l ≠ [] := by
 cases l with
 | nil => simp [splB]
 | cons x l =>
  unfold splB
  split
  ·simp
  ·split <;> simp
theorem splB_none (c : UInt8) : ∀ l : List UInt8, (∀ x ∈ l, x ≠ c) → splB c l = [l]
 | [], _ => rfl
 | x :: l, h => by
  have ih := splB_none c l fun y hy => h y (List.mem_cons_of_mem _ hy)
  unfold splB
  rw [if_neg (h x List.mem_cons_self), ih]
theorem splB_app (c : UInt8) (r : List UInt8) : ∀ l : List UInt8, (∀ x ∈ l, x ≠ c) → splB c (l ++ c :: r) = l :: splB c r
 | [], _ => by show splB c (c :: r) = _; conv => lhs; unfold splB
               rw [if_pos rfl]
 | x :: l, h => by
  have ih := splB_app c r l fun y hy => h y (List.mem_cons_of_mem _ hy)
  show splB c (x :: (l ++ c :: r)) = _
  conv => lhs; unfold splB
  rw [if_neg (h x List.mem_cons_self), ih]
theorem cutC_app (c : UInt8) (r : List UInt8) : ∀ l : List UInt8, (∀ x ∈ l, x ≠ c) → cutC c (l ++ c :: r) = (l, r, true)
 | [], _ => by show cutC c (c :: r) = _; unfold cutC
               rw [if_pos rfl]
 | x :: l, h => by
  have ih := cutC_app c r l fun y hy => h y (List.mem_cons_of_mem _ hy)
  show cutC c (x :: (l ++ c :: r)) = _
  unfold cutC
  rw [if_neg (h x List.mem_cons_self), ih]
theorem splB_cut (c : UInt8) : ∀ l : List UInt8, splB c l = if (cutC c l).2.2 = true then (cutC c l).1 :: splB c (cutC c l).2.1 else [l]
 | [] => rfl
 | x :: l => by
  have ih := splB_cut c l
  by_cases h : x = c
  ·subst h
   conv => lhs; unfold splB
   unfold cutC
   rw [if_pos rfl, if_pos rfl, if_pos rfl]
  ·conv => lhs; unfold splB
   unfold cutC
   rw [if_neg h, if_neg h, ih]
   by_cases h2 : (cutC c l).2.2 = true
   ·rw [if_pos h2, if_pos h2]
   ·rw [if_neg h2, if_neg h2]
theorem digs_none (b : UInt8) (hb : b.toNat < 48) : ∀ (l : List UInt8) (n : Nat), b ∈ l → digs n l = none
 | x :: l, n, h => by
  unfold digs
  rcases List.mem_cons.1 h with e | h
  ·subst e
   rw [if_neg (by omega)]
  ·split
   ·exact digs_none b hb l _ h
   ·rfl
theorem smR_none (b : UInt8) (hb : b.toNat < 48) (l : List UInt8) (h : b ∈ l) : smR l = none := by
 unfold smR
 split
 ·rfl
 ·exact digs_none b hb l 0 h
theorem paQ_eq (l : List UInt8) : paQ l = paR l := by
 unfold paQ paR
 rw [splB_cut 47 l]
 by_cases h : (cutC 47 l).2.2 = true
 ·rw [if_pos h, if_pos h]
  by_cases h2 : ∀ x ∈ (cutC 47 l).2.1, x ≠ 47
  ·rw [splB_none 47 _ h2]
  ·have hm : (47 : UInt8) ∈ (cutC 47 l).2.1 := by
    refine Classical.byContradiction fun hc => h2 fun x hx e => hc (e ▸ hx)
   have e1 : smM 32 (cutC 47 l).2.1 = none := by
    unfold smM
    rw [smR_none 47 (by decide) _ hm]
   have e2 : ∃ y z r, splB 47 (cutC 47 l).2.1 = y :: z :: r := by
    rw [splB_cut 47 (cutC 47 l).2.1]
    by_cases h3 : (cutC 47 (cutC 47 l).2.1).2.2 = true
    ·rw [if_pos h3]
     cases h4 : splB 47 (cutC 47 (cutC 47 l).2.1).2.1 with
     | nil => exact absurd h4 (splB_ne _ _)
     | cons z r => exact ⟨_, z, r, rfl⟩
    ·exfalso
     apply h3
     have : ∀ t : List UInt8, (47 : UInt8) ∈ t → (cutC 47 t).2.2 = true := by
      intro t
      induction t with
      | nil => intro h; cases h
      | cons x t ih =>
       intro h
       unfold cutC
       by_cases hx : x = 47
       ·rw [if_pos hx]
       ·rw [if_neg hx]
        rcases List.mem_cons.1 h with e | h
        ·exact absurd e.symm hx
        ·exact ih h
     exact this _ hm
   obtain ⟨y, z, r, e2⟩ := e2
   rw [e2, e1]
   cases adR (cutC 47 l).1 <;> rfl
 ·rw [if_neg h, if_neg h]
theorem dec3_dig : ∀ n, n < 1000 → ∀ x ∈ dec3 n, 48 ≤ x.toNat ∧ x.toNat ≤ 57 := by
 have h : ((List.range 1000).all fun n => (dec3 n).all fun x => decide (48 ≤ x.toNat ∧ x.toNat ≤ 57)) = true := by decide +kernel
 intro n hn x hx
 have h1 := List.all_eq_true.1 h n (List.mem_range.2 hn)
 exact of_decide_eq_true (List.all_eq_true.1 h1 x hx)
theorem dec3_ne (n : Nat) (hn : n < 1000) (c : UInt8) (hc : c.toNat < 48) : ∀ x ∈ dec3 n, x ≠ c := fun x hx e => by
 have := (dec3_dig n hn x hx).1
 subst e
 omega
theorem sm255 : ∀ n, n < 256 → smM 255 (dec3 n) = some n := by
 have h : ((List.range 256).all fun n => decide (smM 255 (dec3 n) = some n)) = true := by decide +kernel
 intro n hn
 exact of_decide_eq_true (List.all_eq_true.1 h n (List.mem_range.2 hn))
theorem sm32 : ∀ n, n < 33 → smM 32 (dec3 n) = some n := by
 have h : ((List.range 33).all fun n => decide (smM 32 (dec3 n) = some n)) = true := by decide +kernel
 intro n hn
 exact of_decide_eq_true (List.all_eq_true.1 h n (List.mem_range.2 hn))
theorem join4 (a b c d : List UInt8) : joinS [a, b, c, d] = a ++ 46 :: (b ++ 46 :: (c ++ 46 :: d)) := by
 simp [joinS, Lib.join, List.intercalate]
theorem split_dots (a : Nat) : splB 46 (dotS a) = dots a := by
 have hd := fun n : Nat => dec3_ne (n % 256) (by omega) 46 (by decide)
 unfold dotS dots
 rw [join4, splB_app 46 _ _ (hd _), splB_app 46 _ _ (hd _), splB_app 46 _ _ (hd _), splB_none 46 _ (hd _)]
theorem adR_dotS (a : Nat) (ha : a < 4294967296) : adR (dotS a) = some a := by
 unfold adR
 rw [split_dots]
 unfold dots
 rw [if_pos (by rfl)]
 simp only [foldA, sm255 _ (Nat.mod_lt _ (show 0 < 256 by decide))]
 congr 1
 omega
theorem dotS_ne (a : Nat) : ∀ x ∈ dotS a, x ≠ 47 := by
 have hd := fun n : Nat => dec3_ne (n % 256) (by omega) 47 (by decide)
 unfold dotS dots
 rw [join4]
 intro x hx
 simp only [List.mem_append, List.mem_cons] at hx
 rcases hx with h | h | h | h | h | h | h
 ·exact hd _ x h
 ·subst h; decide
 ·exact hd _ x h
 ·subst h; decide
 ·exact hd _ x h
 ·subst h; decide
 ·exact hd _ x h
theorem paR_shoS (a : Nat) (ha : a < 4294967296) (n : Int) : paR (shoS a n) = if okX a n = true then some (a, n.toNat) else none := by
 unfold shoS
 by_cases h : okX a n = true
 ·have hl := okX_len h
  have hn : ((n.toNat : Nat) : Int) = n := by omega
  rw [if_pos h, if_pos h]
  unfold paR
  rw [cutC_app 47 _ _ (dotS_ne a), if_pos rfl, adR_dotS a ha, sm32 _ (by omega)]
  show (if okX a ((n.toNat : Nat) : Int) = true then some (a, n.toNat) else none) = _
  rw [hn, if_pos h]
 ·rw [if_neg h, if_neg h]
  rfl
theorem smM_le {m : Nat} {l : List UInt8} {n : Nat} (h : smM m l = some n) : n ≤ m := by
 unfold smM at h
 split at h
 ·cases h
 ·split at h
  ·injection h with h
   subst h
   assumption
  ·cases h
theorem foldA_lt : ∀ (l : List (List UInt8)) (a v : Nat), foldA a l = some v → v < (a + 1) * 256 ^ l.length
 | [], a, v, h => by
  injection h with h
  subst h
  simp
 | x :: l, a, v, h => by
  unfold foldA at h
  split at h
  ·cases h
  ·rename_i n hn
   have h1 := smM_le hn
   have := foldA_lt l _ v h
   rw [List.length_cons, Nat.pow_succ]
   refine Nat.lt_of_lt_of_le this ?_
   rw [Nat.mul_comm (256 ^ l.length) 256, ← Nat.mul_assoc]
   exact Nat.mul_le_mul_right _ (by omega)
theorem adR_lt {l : List UInt8} {a : Nat} (h : adR l = some a) : a < 4294967296 := by
 unfold adR at h
 split at h
 ·rename_i hl
  have := foldA_lt _ _ _ h
  rw [hl] at this
  exact this
 ·cases h
theorem paR_ok {l : List UInt8} {a n : Nat} (h : paR l = some (a, n)) : a < 4294967296 ∧ okX a n = true := by
 unfold paR at h
 split at h
 ·split at h
  ·rename_i a' n' e1 e2
   split at h
   ·rename_i hx
    injection h with h
    injection h with h1 h2
    subst h1; subst h2
    exact ⟨adR_lt e1, hx⟩
   ·cases h
  ·cases h
 ·cases h
def hoX (a : Nat) (n : Int) (b : Nat) : Bool := okX a n && (decide (((topN b (clN n) : Nat) : Int) = (a : Nat)) && decide (((clN n : Nat) : Int) = n))
def wiX (a : Nat) (n : Int) (b : Nat) (m : Int) : Bool := okX b m && (decide (n ≤ m) && hoX a n b)
theorem topN_low (a n m : Nat) (h : n ≤ m) : topN (topN a m) n = topN a n := by
 unfold topN
 have e : (2 : Nat) ^ (32 - n) = 2 ^ (32 - m) * 2 ^ (32 - n - (32 - m)) := by rw [← Nat.pow_add]; congr 1; omega
 rw [e, ← Nat.div_div_eq_div_mul, Nat.mul_div_cancel _ (Nat.pow_pos (by decide)), Nat.div_div_eq_div_mul]
theorem okX_top1 (a n : Nat) (hn : n ≤ 32) : okX (topN a n) n = true := by
 unfold okX
 rw [clN_nat n hn, topN_low a n n (Nat.le_refl _)]
 simp
theorem hoX_nat (a n b : Nat) (hn : n ≤ 32) : hoX a n b = (okX a n && decide (topN b n = a)) := by
 unfold hoX
 rw [clN_nat n hn]
 congr 1
 rw [decide_eq_true (rfl : ((n : Nat) : Int) = n), Bool.and_true]
 exact decide_eq_decide.2 (by omega)
theorem hoX_true {a : Nat} {n : Int} {b : Nat} (h : hoX a n b = true) : okX a n = true ∧ topN b n.toNat = a := by
 unfold hoX at h
 simp only [Bool.and_eq_true, decide_eq_true_eq] at h
 obtain ⟨h1, h2, h3⟩ := h
 refine ⟨h1, ?_⟩
 have : clN n = n.toNat := by omega
 rw [this] at h2
 omega
theorem apart (a : Nat) (n : Int) (b : Nat) (m : Int) (x : Nat) (h1 : hoX a n x = true) (h2 : hoX b m x = true) : wiX a n b m = true ∨ wiX b m a n = true := by
 obtain ⟨o1, t1⟩ := hoX_true h1
 obtain ⟨o2, t2⟩ := hoX_true h2
 have l1 := okX_len o1
 have l2 := okX_len o2
 obtain ⟨n', rfl⟩ : ∃ k : Nat, n = k := ⟨n.toNat, by omega⟩
 obtain ⟨m', rfl⟩ : ∃ k : Nat, m = k := ⟨m.toNat, by omega⟩
 rw [Int.toNat_natCast] at t1 t2
 rcases Nat.le_total n' m' with h | h
 ·left
  unfold wiX
  rw [o2, hoX_nat _ _ _ (by omega), o1, ← t2, topN_low _ _ _ h, t1]
  simp
  omega
 ·right
  unfold wiX
  rw [o1, hoX_nat _ _ _ (by omega), o2, ← t1, topN_low _ _ _ h, t2]
  simp
  omega
@[reducible] def decD (n : Nat) : List UInt8 := Lib.decDigits n
def numR (l : List UInt8) : Option Nat := if l.length < 1 ∨ 16 < l.length ∨ (l.head? = some 48 ∧ 1 < l.length) then none else digs 0 l
theorem decD_lt (n : Nat) (h : n < 10) : decD n = [UInt8.ofNat (48 + n)] := by
 unfold decD
 rw [Lib.decDigits, dif_pos h]
theorem decD_ge (n : Nat) (h : 10 ≤ n) : decD n = decD (n / 10) ++ [UInt8.ofNat (48 + n % 10)] := by
 unfold decD
 conv => lhs; rw [Lib.decDigits, dif_neg (by omega)]
theorem digs_snoc : ∀ (l : List UInt8) (a : Nat) (b : UInt8), digs a (l ++ [b]) = match digs a l with
  | none => none
  | some m => if 48 ≤ b.toNat ∧ b.toNat ≤ 57 then some (10 * m + (b.toNat - 48)) else none
 | [], a, b => by simp [digs]
 | x :: l, a, b => by
  simp only [List.cons_append, digs]
  split
  ·exact digs_snoc l _ b
  ·rfl
theorem digit_nat (d : Nat) (h : d < 10) : (UInt8.ofNat (48 + d)).toNat = 48 + d := by
 simp
 omega
theorem decD_ne (n : Nat) : decD n ≠ [] := by
 by_cases h : n < 10
 ·rw [decD_lt n h]; simp
 ·rw [decD_ge n (by omega)]; simp
theorem decD_digs : ∀ n : Nat, digs 0 (decD n) = some n := by
 intro n
 induction n using Nat.strongRecOn with
 | _ n ih =>
  by_cases h : n < 10
  ·rw [decD_lt n h]
   simp only [digs]
   rw [digit_nat n h, if_pos (by omega)]
   congr 1
   omega
  ·rw [decD_ge n (by omega), digs_snoc, ih (n / 10) (by omega)]
   simp only
   rw [digit_nat _ (by omega), if_pos (by omega)]
   congr 1
   omega
theorem decD_head : ∀ n : Nat, n ≠ 0 → (decD n).head? ≠ some 48 := by
 intro n
 induction n using Nat.strongRecOn with
 | _ n ih =>
  intro hn
  by_cases h : n < 10
  ·rw [decD_lt n h]
   simp only [List.head?_cons]
   intro e
   have := congrArg UInt8.toNat (Option.some.inj e)
   rw [digit_nat n h] at this
   simp at this
   omega
  ·rw [decD_ge n (by omega)]
   have := ih (n / 10) (by omega) (by omega)
   rw [List.head?_append]
   cases hd : (decD (n / 10)).head? with
   | none => exact absurd (List.head?_eq_none_iff.1 hd) (decD_ne _)
   | some x =>
    rw [hd] at this
    simpa using this
theorem decD_len : ∀ (k n : Nat), n < 10 ^ (k + 1) → (decD n).length ≤ k + 1
 | 0, n, h => by
  rw [decD_lt n (by simpa using h)]
  simp
 | k + 1, n, h => by
  by_cases h1 : n < 10
  ·rw [decD_lt n h1]
   simp
  ·rw [decD_ge n (by omega), List.length_append]
   have := decD_len k (n / 10) (by rw [Nat.pow_succ] at h; omega)
   simp
   omega
theorem numR_decD (n : Nat) (h : n < 10000000000000000) : numR (decD n) = some n := by
 unfold numR
 have h1 := decD_len 15 n h
 have h2 : 0 < (decD n).length := List.length_pos_iff.2 (decD_ne n)
 have h3 : ¬ ((decD n).head? = some 48 ∧ 1 < (decD n).length) := by
  rintro ⟨a, b⟩
  by_cases h0 : n = 0
  ·subst h0
   rw [decD_lt 0 (by decide)] at b
   simp at b
  ·exact decD_head n h0 a
 rw [if_neg (by rintro (a | a | a); omega; omega; exact h3 a)]
 exact decD_digs n
theorem digs_dec : ∀ (k : Nat) (l : List UInt8) (n : Nat), l.length = k → digs 0 l = some n → l ≠ [] → ¬ (l.head? = some 48 ∧ 1 < l.length) → decD n = l := by
 intro k
 induction k with
 | zero => intro l n hl _ hne _; exact absurd (List.eq_nil_of_length_eq_zero hl) hne
 | succ k ih =>
  intro l n hl h hne hz
  obtain ⟨l', b, rfl⟩ : ∃ l' b, l = l' ++ [b] := ⟨l.dropLast, l.getLast hne, (List.dropLast_concat_getLast hne).symm⟩
  rw [digs_snoc] at h
  cases hd : digs 0 l' with
  | none => rw [hd] at h; cases h
  | some m =>
   rw [hd] at h
   simp only at h
   split at h
   ·rename_i hb
    injection h with h
    have hbe : UInt8.ofNat (48 + (b.toNat - 48)) = b := by
     rw [show 48 + (b.toNat - 48) = b.toNat by omega]
     simp
    by_cases hl0 : l' = []
    ·subst hl0
     simp [digs] at hd
     subst hd
     rw [← h, decD_lt _ (by omega), show 10 * 0 + (b.toNat - 48) = b.toNat - 48 by omega, hbe]
     rfl
    ·have hh : (l' ++ [b]).head? = l'.head? := by
      cases l' with
      | nil => exact absurd rfl hl0
      | cons x l' => rfl
     have hlen : 1 < (l' ++ [b]).length := by
      have := List.length_pos_iff.2 hl0
      simp
      omega
     have hm := ih l' m (by simpa using hl) hd hl0 (fun ⟨a, _⟩ => hz ⟨by rw [hh]; exact a, hlen⟩)
     have hm0 : m ≠ 0 := by
      intro e
      subst e
      rw [decD_lt 0 (by decide)] at hm
      subst hm
      exact hz ⟨rfl, hlen⟩
     have h1 : n / 10 = m := by omega
     have h2 : n % 10 = b.toNat - 48 := by omega
     rw [decD_ge n (by omega), h1, h2, hm, hbe]
   ·cases h
theorem numR_dec {l : List UInt8} {n : Nat} (h : numR l = some n) : decD n = l := by
 unfold numR at h
 split at h
 ·cases h
 ·rename_i hc
  exact digs_dec l.length l n rfl h (fun e => hc (.inl (by rw [e]; simp))) (fun e => hc (.inr (.inr e)))
theorem decD_dig (n : Nat) : ∀ x ∈ decD n, 48 ≤ x.toNat ∧ x.toNat ≤ 57 := by
 induction n using Nat.strongRecOn with
 | _ n ih =>
  intro x hx
  by_cases h : n < 10
  ·rw [decD_lt n h] at hx
   simp only [List.mem_singleton] at hx
   subst hx
   rw [digit_nat n h]
   omega
  ·rw [decD_ge n (by omega)] at hx
   rcases List.mem_append.1 hx with h1 | h1
   ·exact ih (n / 10) (by omega) x h1
   ·simp only [List.mem_singleton] at h1
    subst h1
    rw [digit_nat _ (by omega)]
    omega
theorem smR_dec {l : List UInt8} {n : Nat} (h : smR l = some n) : decD n = l := by
 unfold smR at h
 split at h
 ·cases h
 ·rename_i hc
  exact digs_dec l.length l n rfl h (fun e => hc (.inl (by rw [e]; simp))) (fun e => hc (.inr (.inr e)))
structure IfQ where
 id : Int
 router : Int
 a : Nat
 n : Int
 cap : Int
deriving DecidableEq
structure CfQ where
 nums : List Int
 id : Nat
 ifs : List IfQ
 deny : List Int
deriving DecidableEq
def wordsL : List (List UInt8) := [[97, 115], [105, 100], [104, 111, 108, 100], [114, 101, 116, 114, 121], [114, 111, 117, 116, 101, 114, 115], [99, 111, 117, 110, 116, 115], [99, 97, 114, 114, 105, 101, 115], [104, 105, 103, 104], [108, 111, 119], [109, 111, 118, 101, 115], [99, 121, 99, 108, 101], [115, 116, 97, 108, 101], [119, 97, 114, 109], [101, 120, 112, 105, 114, 101], [112, 114, 101, 102], [108, 111, 110, 103, 101, 114], [114, 111, 117, 116, 101, 115], [113, 117, 101, 117, 101]]
def ifaceW : List UInt8 := [105, 102, 97, 99, 101]
def denyW : List UInt8 := [100, 101, 110, 121]
def within (n least most : Int) : Bool := decide (least ≤ n) && decide (n ≤ most)
def ifOk (x : IfQ) : Bool := within x.id 0 4294967295 && (within x.router 0 15 && (okX x.a x.n && within x.cap 0 9007199254740991))
def ifsOk (l : List IfQ) : Bool := decide (l.length ≤ 256) && (decide ((l.map (·.id)).Nodup) && (decide ((l.map fun x => (x.router, x.a, x.n)).Nodup) && l.all ifOk))
def num (c : CfQ) (i : Nat) : Int := c.nums.getD i 0
def locOk (sa hold : Int) (id : Nat) (retry : Int) : Bool := (within sa 1 4294967295 && (decide (hold = 0) || within hold 3 65535) && decide (id ≠ 0)) && within retry 1 65535
def cfOk (c : CfQ) : Bool := locOk (num c 0) (num c 2) c.id (num c 3) && (within (num c 10) 1 1048576 && within (num c 11) 1 1048576 && within (num c 12) 1 1048576 && within (num c 13) 1 1048576) &&
 (within (num c 4) 1 16 && within (num c 5) 0 16 && within (num c 6) 0 16) && (within (num c 7) 1 1000 && within (num c 8) 0 (num c 7) && within (num c 9) 1 1024) && (within (num c 16) 0 65536 && within (num c 17) 4096 65536) && (within (num c 14) 1 4294967295 && within (num c 15) 0 255) &&
 ifsOk c.ifs && c.ifs.all (fun x => decide (x.router < num c 4)) && decide (c.deny.length ≤ 16) && c.deny.all (fun n => within n 0 4294967295)
def fixM (i : Nat) (l : List (List UInt8)) (c : CfQ) : Option CfQ := match l with
 | [w, v] => if wordsL[i]? = some w then (if i = 1 then (adR v).map (fun a => { c with id := a }) else (numR v).map (fun n => { c with nums := c.nums.set i n })) else none
 | _ => none
def moreM (l : List (List UInt8)) (c : CfQ) : Option CfQ := match l with
 | [w, v] => if w = denyW then (numR v).map (fun n => { c with deny := c.deny ++ [(n : Int)] }) else none
 | [w, a, b, p, d] => if w = ifaceW ∧ c.deny = [] then match numR a, numR b, paR p, numR d with
   | some a, some b, some p, some d => some { c with ifs := c.ifs ++ [⟨a, b, p.1, p.2, d⟩] }
   | _, _, _, _ => none
  else none
 | _ => none
def lineM (i : Nat) (x : List UInt8) (c : CfQ) : Option CfQ := if i < 18 then fixM i (splB 32 x) c else moreM (splB 32 x) c
def linesM : Nat → List (List UInt8) → CfQ → Option CfQ
 | _, [], c => some c
 | i, x :: l, c => match lineM i x c with
  | none => none
  | some c => linesM (i + 1) l c
def cf0 : CfQ := ⟨List.replicate 18 0, 0, [], []⟩
def parL (ls : List (List UInt8)) : Option CfQ := if ls.length < 18 then none else match linesM 0 ls cf0 with
 | none => none
 | some c => if cfOk c = true then some c else none
def parM (s : List UInt8) : Option CfQ := if s.getLast? = some 10 then parL (splB 10 s.dropLast) else none
def fixL (c : CfQ) (i : Nat) : List UInt8 := (wordsL.getD i []) ++ 32 :: (if i = 1 then dotS c.id else decD (num c i).toNat)
def ifL (x : IfQ) : List UInt8 := ifaceW ++ 32 :: (decD x.id.toNat ++ 32 :: (decD x.router.toNat ++ 32 :: (shoS x.a x.n ++ 32 :: decD x.cap.toNat)))
def denyL (n : Int) : List UInt8 := denyW ++ 32 :: decD n.toNat
def linesOf (c : CfQ) : List (List UInt8) := (List.range 18).map (fixL c) ++ c.ifs.map ifL ++ c.deny.map denyL
def txt (ls : List (List UInt8)) : List UInt8 := ls.flatMap fun x => x ++ [10]
theorem splB_txt : ∀ (ls : List (List UInt8)), ls ≠ [] → (∀ x ∈ ls, ∀ y ∈ x, y ≠ (10 : UInt8)) → (txt ls).getLast? = some 10 ∧ splB 10 (txt ls).dropLast = ls
 | [], h, _ => absurd rfl h
 | [x], _, h => by
  have hx := h x List.mem_cons_self
  simp only [txt, List.flatMap_cons, List.flatMap_nil, List.append_nil]
  rw [List.dropLast_concat, splB_none 10 x hx]
  exact ⟨by simp, rfl⟩
 | x :: y :: l, _, h => by
  have hx := h x List.mem_cons_self
  obtain ⟨h1, h2⟩ := splB_txt (y :: l) (by simp) (fun z hz => h z (List.mem_cons_of_mem _ hz))
  have hne : txt (y :: l) ≠ [] := by simp [txt]
  have e : txt (x :: y :: l) = x ++ 10 :: txt (y :: l) := by simp [txt]
  rw [e]
  constructor
  ·rw [List.getLast?_append, List.getLast?_cons]
   cases hl : (txt (y :: l)).getLast? with
   | none => exact absurd (List.getLast?_eq_none_iff.1 hl) hne
   | some z => rw [hl] at h1; injection h1 with h1; subst h1; rfl
  ·rw [List.dropLast_append_of_ne_nil (by simp), List.dropLast_cons_of_ne_nil hne, splB_app 10 _ x hx, h2]
theorem txt_splB (s : List UInt8) (h : s.getLast? = some 10) : txt (splB 10 s.dropLast) = s := by
 have hne : s ≠ [] := by intro e; subst e; cases h
 have e : s.dropLast ++ [10] = s := by
  have := List.dropLast_concat_getLast hne
  rw [List.getLast?_eq_some_getLast hne] at h
  injection h with h
  rw [h] at this
  exact this
 have key : ∀ l : List UInt8, txt (splB 10 l) = l ++ [10] := by
  intro l
  induction l with
  | nil => rfl
  | cons x l ih =>
   unfold splB
   by_cases hx : x = 10
   ·rw [if_pos hx]
    subst hx
    simp only [txt, List.flatMap_cons, List.nil_append, List.cons_append] at ih ⊢
    rw [ih]
   ·rw [if_neg hx]
    cases hs : splB 10 l with
    | nil => exact absurd hs (splB_ne _ _)
    | cons y r =>
     rw [hs] at ih
     simp only [txt, List.flatMap_cons, List.cons_append, List.append_assoc] at ih ⊢
     rw [ih]
 rw [key, e]
theorem linesM_app : ∀ (a b : List (List UInt8)) (i : Nat) (c : CfQ), linesM i (a ++ b) c = match linesM i a c with
  | none => none
  | some c' => linesM (i + a.length) b c'
 | [], b, i, c => rfl
 | x :: a, b, i, c => by
  simp only [List.cons_append, linesM]
  cases lineM i x c with
  | none => rfl
  | some c1 =>
   simp only
   rw [linesM_app a b (i + 1) c1]
   simp only [List.length_cons]
   rw [show i + 1 + a.length = i + (a.length + 1) by omega]
theorem words_at (i : Nat) (h : i < 18) : wordsL[i]? = some (wordsL.getD i []) := by
 rw [List.getD_eq_getElem?_getD]
 have : i < wordsL.length := h
 rw [List.getElem?_eq_getElem this]
 rfl
theorem words_low : ∀ i, i < 18 → ∀ x ∈ wordsL.getD i [], 97 ≤ x.toNat := by
 have h : (wordsL.all fun l => l.all fun x => decide (97 ≤ x.toNat)) = true := by decide +kernel
 intro i hi x hx
 have h1 := words_at i hi
 exact of_decide_eq_true (List.all_eq_true.1 (List.all_eq_true.1 h _ (List.mem_of_getElem? h1)) x hx)
theorem ne_of_low {x c : UInt8} {k : Nat} (h : k ≤ x.toNat) (hc : c.toNat < k) : x ≠ c := fun e => by subst e; omega
theorem dotS_low (a : Nat) : ∀ x ∈ dotS a, 46 ≤ x.toNat := by
 have hd := fun n : Nat => dec3_dig (n % 256) (by omega)
 unfold dotS dots
 rw [join4]
 intro x hx
 simp only [List.mem_append, List.mem_cons] at hx
 rcases hx with h | h | h | h | h | h | h
 ·have := (hd _ x h).1; omega
 ·subst h; decide
 ·have := (hd _ x h).1; omega
 ·subst h; decide
 ·have := (hd _ x h).1; omega
 ·subst h; decide
 ·have := (hd _ x h).1; omega
theorem shoS_low (a : Nat) (n : Int) : ∀ x ∈ shoS a n, 46 ≤ x.toNat := by
 unfold shoS
 split
 ·rename_i h
  have hl := okX_len h
  intro x hx
  rcases List.mem_append.1 hx with h1 | h1
  ·exact dotS_low a x h1
  ·rcases List.mem_cons.1 h1 with h2 | h2
   ·subst h2; decide
   ·have := (dec3_dig n.toNat (by omega) x h2).1
    omega
 ·intro x hx
  simp at hx
  subst hx
  decide
theorem decD_low (n : Nat) : ∀ x ∈ decD n, 46 ≤ x.toNat := fun x hx => by have := (decD_dig n x hx).1; omega
theorem split_fix (c : CfQ) (i : Nat) (hi : i < 18) : splB 32 (fixL c i) = [wordsL.getD i [], if i = 1 then dotS c.id else decD (num c i).toNat] := by
 unfold fixL
 rw [splB_app 32 _ _ (fun x hx => ne_of_low (words_low i hi x hx) (by decide)), splB_none]
 intro x hx
 split at hx
 ·exact ne_of_low (dotS_low _ x hx) (by decide)
 ·exact ne_of_low (decD_low _ x hx) (by decide)
theorem split_if (x : IfQ) : splB 32 (ifL x) = [ifaceW, decD x.id.toNat, decD x.router.toNat, shoS x.a x.n, decD x.cap.toNat] := by
 have hd : ∀ n : Nat, ∀ x ∈ decD n, x ≠ (32 : UInt8) := fun n x hx => ne_of_low (decD_low n x hx) (by decide)
 have hs : ∀ y ∈ shoS x.a x.n, y ≠ (32 : UInt8) := fun y hy => ne_of_low (shoS_low _ _ y hy) (by decide)
 unfold ifL
 rw [splB_app 32 _ ifaceW (by decide), splB_app 32 _ _ (hd _), splB_app 32 _ _ (hd _), splB_app 32 _ _ hs, splB_none 32 _ (hd _)]
theorem split_deny (n : Int) : splB 32 (denyL n) = [denyW, decD n.toNat] := by
 unfold denyL
 rw [splB_app 32 _ denyW (by decide), splB_none 32 _ (fun x hx => ne_of_low (decD_low _ x hx) (by decide))]
def CfW (c : CfQ) : Prop := c.nums.length = 18 ∧ num c 1 = 0 ∧ c.id < 4294967296 ∧ ∀ x ∈ c.ifs, x.a < 4294967296
theorem within_iff {n a b : Int} : within n a b = true ↔ a ≤ n ∧ n ≤ b := by simp [within]
theorem cfOk_nums {c : CfQ} (h : cfOk c = true) : ∀ i, i < 18 → i ≠ 1 → 0 ≤ num c i ∧ num c i < 10000000000000000 := by
 unfold cfOk locOk at h
 simp only [Bool.and_eq_true, within_iff, Bool.or_eq_true, decide_eq_true_eq] at h
 intro i hi h1
 obtain h | h | h | h | h | h | h | h | h | h | h | h | h | h | h | h | h | h : i = 0 ∨ i = 1 ∨ i = 2 ∨ i = 3 ∨ i = 4 ∨ i = 5 ∨ i = 6 ∨ i = 7 ∨ i = 8 ∨ i = 9 ∨ i = 10 ∨ i = 11 ∨ i = 12 ∨ i = 13 ∨ i = 14 ∨ i = 15 ∨ i = 16 ∨ i = 17 := by omega
 all_goals first | (subst h; omega) | omega
theorem cfOk_parts {c : CfQ} (h : cfOk c = true) : ifsOk c.ifs = true ∧ c.deny.all (fun n => within n 0 4294967295) = true ∧ c.deny.length ≤ 16 ∧ c.ifs.length ≤ 256 := by
 unfold cfOk at h
 simp only [Bool.and_eq_true, decide_eq_true_eq] at h
 refine ⟨h.1.1.1.2, h.2, h.1.2, ?_⟩
 have := h.1.1.1.2
 unfold ifsOk at this
 simp only [Bool.and_eq_true, decide_eq_true_eq] at this
 exact this.1
theorem fix_fold (c : CfQ) (hw : CfW c) (h : ∀ i, i < 18 → i ≠ 1 → 0 ≤ num c i ∧ num c i < 10000000000000000) : ∀ i, i ≤ 18 →
  linesM 0 ((List.range i).map (fixL c)) cf0 = some ⟨c.nums.take i ++ List.replicate (18 - i) 0, if 1 < i then c.id else 0, [], []⟩ := by
 intro i
 induction i with
 | zero => intro _; rfl
 | succ i ih =>
  intro hi
  rw [List.range_succ, List.map_append, linesM_app, ih (by omega)]
  simp only [List.map_cons, List.map_nil, linesM, List.length_map, List.length_range, Nat.zero_add, lineM, if_pos (show i < 18 by omega)]
  rw [split_fix c i (by omega)]
  have hl : (c.nums.take i ++ List.replicate (18 - i) (0 : Int)).length = 18 := by
   rw [List.length_append, List.length_take, hw.1, List.length_replicate]
   omega
  have hg : c.nums[i]? = some (num c i) := by
   unfold num
   rw [List.getD_eq_getElem?_getD, List.getElem?_eq_getElem (by rw [hw.1]; omega)]
   rfl
  have ht : c.nums.take (i + 1) = c.nums.take i ++ [num c i] := by rw [List.take_add_one, hg]; rfl
  have hs : (c.nums.take i ++ List.replicate (18 - i) (0 : Int)).set i (num c i) = c.nums.take (i + 1) ++ List.replicate (18 - (i + 1)) 0 := by
   have hti : (c.nums.take i).length = i := by rw [List.length_take, hw.1]; omega
   rw [List.set_append_right _ _ (by omega), hti, Nat.sub_self, ht, show 18 - i = (18 - (i + 1)) + 1 by omega, List.replicate_succ, List.set_cons_zero, List.append_assoc]
   rfl
  simp only [fixM]
  rw [if_pos (words_at i (by omega))]
  by_cases h1 : i = 1
  ·subst h1
   rw [if_pos rfl, if_pos rfl, adR_dotS _ hw.2.2.1]
   have h0 := hw.2.1
   rw [h0] at hs
   have hsame : (c.nums.take 1 ++ List.replicate (18 - 1) (0 : Int)) = c.nums.take (1 + 1) ++ List.replicate (18 - (1 + 1)) 0 := by
    rw [← hs]
    have hti : (c.nums.take 1).length = 1 := by rw [List.length_take, hw.1]; omega
    rw [List.set_append_right _ _ (by omega), hti]
    rfl
   show some _ = _
   rw [hsame]
   rfl
  ·rw [if_neg h1, if_neg h1, numR_decD _ (by have := h i (by omega) h1; omega)]
   have hn : (((num c i).toNat : Nat) : Int) = num c i := by have := h i (by omega) h1; omega
   show some _ = _
   rw [hn]
   dsimp only
   rw [hs]
   congr 2
   by_cases h2 : 1 < i
   ·rw [if_pos h2, if_pos (by omega)]
   ·rw [if_neg h2, if_neg (by omega)]
theorem ifs_fold : ∀ (l : List IfQ) (i : Nat) (c : CfQ), 18 ≤ i → c.deny = [] → (∀ x ∈ l, ifOk x = true ∧ x.a < 4294967296) → linesM i (l.map ifL) c = some { c with ifs := c.ifs ++ l }
 | [], i, c, _, _, _ => by simp [linesM]
 | x :: l, i, c, hi, hd, h => by
  obtain ⟨h1, ha⟩ := h x List.mem_cons_self
  unfold ifOk at h1
  simp only [Bool.and_eq_true, within_iff] at h1
  have hl := okX_len h1.2.2.1
  simp only [List.map_cons, linesM, lineM, if_neg (show ¬ i < 18 by omega), split_if, moreM, hd, and_self, if_true]
  rw [numR_decD _ (by omega), numR_decD _ (by omega), numR_decD _ (by omega), paR_shoS _ ha, if_pos h1.2.2.1]
  dsimp only
  have e1 : ((x.id.toNat : Nat) : Int) = x.id := by omega
  have e2 : ((x.router.toNat : Nat) : Int) = x.router := by omega
  have e3 : ((x.cap.toNat : Nat) : Int) = x.cap := by omega
  have e4 : ((x.n.toNat : Nat) : Int) = x.n := by omega
  rw [e1, e2, e3, e4, ifs_fold l (i + 1) _ (by omega) rfl (fun y hy => h y (List.mem_cons_of_mem _ hy))]
  simp
theorem deny_fold : ∀ (l : List Int) (i : Nat) (c : CfQ), 18 ≤ i → (∀ x ∈ l, within x 0 4294967295 = true) → linesM i (l.map denyL) c = some { c with deny := c.deny ++ l }
 | [], i, c, _, _ => by simp [linesM]
 | x :: l, i, c, hi, h => by
  have h1 := within_iff.1 (h x List.mem_cons_self)
  simp only [List.map_cons, linesM, lineM, if_neg (show ¬ i < 18 by omega), split_deny, moreM, if_true]
  rw [numR_decD _ (by omega)]
  have e1 : ((x.toNat : Nat) : Int) = x := by omega
  show (match (some _ : Option CfQ) with | none => none | some c => linesM (i + 1) (l.map denyL) c) = _
  dsimp only
  rw [e1, deny_fold l (i + 1) _ (by omega) (fun y hy => h y (List.mem_cons_of_mem _ hy))]
  simp
theorem par_show (c : CfQ) (hw : CfW c) (h : cfOk c = true) : parL (linesOf c) = some c := by
 obtain ⟨p1, p2, p3, p4⟩ := cfOk_parts h
 unfold ifsOk at p1
 simp only [Bool.and_eq_true, List.all_eq_true] at p1
 have hf := fix_fold c hw (cfOk_nums h) 18 (Nat.le_refl _)
 have e0 : c.nums.take 18 ++ List.replicate (18 - 18) (0 : Int) = c.nums := by
  rw [List.take_of_length_le (by rw [hw.1]; exact Nat.le_refl _)]
  simp
 rw [e0, if_pos (by decide)] at hf
 unfold parL linesOf
 rw [if_neg (by simp), List.append_assoc, linesM_app, hf]
 simp only [List.length_map, List.length_range]
 rw [linesM_app, ifs_fold c.ifs _ _ (by decide) rfl (fun x hx => ⟨p1.2.2.2 x hx, hw.2.2.2 x hx⟩)]
 simp only [List.nil_append, List.length_map]
 rw [deny_fold c.deny _ _ (by omega) (fun x hx => List.all_eq_true.1 p2 x hx)]
 simp only [List.nil_append]
 rw [if_pos h]
theorem inter_splB (c : UInt8) : ∀ l : List UInt8, [c].intercalate (splB c l) = l
 | [] => rfl
 | x :: l => by
  have ih := inter_splB c l
  unfold splB
  by_cases h : x = c
  ·rw [if_pos h]
   cases hs : splB c l with
   | nil => exact absurd hs (splB_ne _ _)
   | cons y r =>
    rw [hs] at ih
    rw [List.intercalate_cons_cons, ih, h]
    rfl
  ·rw [if_neg h]
   cases hs : splB c l with
   | nil => exact absurd hs (splB_ne _ _)
   | cons y r =>
    rw [hs] at ih
    cases r with
    | nil =>
     simp [List.intercalate] at ih ⊢
     exact ih
    | cons z r =>
     simp only at ih ⊢
     rw [List.intercalate_cons_cons] at ih ⊢
     rw [← ih]
     rfl
theorem sm_dec {m : Nat} (hm : m < 1000) {l : List UInt8} {n : Nat} (h : smM m l = some n) : dec3 n = l := by
 have hle := smM_le h
 unfold smM at h
 split at h
 ·cases h
 ·rename_i k hk
  split at h
  ·injection h with h
   subst h
   rw [← smR_dec hk, ← dec3_eq _ (by omega)]
  ·cases h
theorem adR_dot {l : List UInt8} {a : Nat} (h : adR l = some a) : dotS a = l := by
 unfold adR at h
 split at h
 ·rename_i h4
  have hj := inter_splB 46 l
  match hs : splB 46 l, h4 with
  | [x1, x2, x3, x4], _ =>
   rw [hs] at h hj
   simp only [foldA] at h
   cases e1 : smM 255 x1 with
   | none => rw [e1] at h; cases h
   | some n1 =>
    cases e2 : smM 255 x2 with
    | none => rw [e1, e2] at h; cases h
    | some n2 =>
     cases e3 : smM 255 x3 with
     | none => rw [e1, e2, e3] at h; cases h
     | some n3 =>
      cases e4 : smM 255 x4 with
      | none => rw [e1, e2, e3, e4] at h; cases h
      | some n4 =>
       rw [e1, e2, e3, e4] at h
       injection h with h
       have l1 := smM_le e1
       have l2 := smM_le e2
       have l3 := smM_le e3
       have l4 := smM_le e4
       unfold dotS dots
       rw [show a / 16777216 % 256 = n1 by omega, show a / 65536 % 256 = n2 by omega, show a / 256 % 256 = n3 by omega, show a % 256 = n4 by omega, sm_dec (by decide) e1, sm_dec (by decide) e2, sm_dec (by decide) e3, sm_dec (by decide) e4]
       exact hj
 ·cases h
theorem cutC_join (c : UInt8) : ∀ l : List UInt8, (cutC c l).2.2 = true → (cutC c l).1 ++ c :: (cutC c l).2.1 = l
 | [], h => by cases h
 | x :: l, h => by
  unfold cutC at h ⊢
  by_cases hx : x = c
  ·rw [if_pos hx]
   simp [hx]
  ·rw [if_neg hx] at h ⊢
   simp only [List.cons_append]
   rw [cutC_join c l h]
theorem paR_show {l : List UInt8} {a n : Nat} (h : paR l = some (a, n)) : shoS a n = l := by
 have hok := (paR_ok h).2
 unfold paR at h
 split at h
 ·rename_i hc
  split at h
  ·rename_i a' n' e1 e2
   split at h
   ·injection h with h
    injection h with h1 h2
    subst h1 h2
    unfold shoS
    rw [if_pos hok, Int.toNat_natCast, adR_dot e1, sm_dec (by decide) e2]
    exact cutC_join 47 l hc
   ·cases h
  ·cases h
 ·cases h
theorem two_words {x w v : List UInt8} (h : splB 32 x = [w, v]) : x = w ++ 32 :: v := by
 have := inter_splB 32 x
 rw [h] at this
 simpa [List.intercalate] using this.symm
theorem fix_inv {i : Nat} (hi : i < 18) {x : List UInt8} {c c' : CfQ} (hl : c.nums.length = 18) (h : fixM i (splB 32 x) c = some c') :
  x = fixL c' i ∧ c'.nums.length = 18 ∧ c'.ifs = c.ifs ∧ c'.deny = c.deny ∧ (∀ j, j ≠ i ∨ i = 1 → num c' j = num c j) ∧ (i ≠ 1 → c'.id = c.id) ∧ (i = 1 → c'.id < 4294967296) := by
 unfold fixM at h
 split at h
 ·rename_i w v hs
  split at h
  ·rename_i hw
   have hw' : wordsL.getD i [] = w := by rw [words_at i hi] at hw; exact Option.some.inj hw
   have hx := two_words hs
   split at h
   ·rename_i h1
    cases ha : adR v with
    | none => rw [ha] at h; cases h
    | some a =>
     rw [ha] at h
     injection h with h
     subst h
     refine ⟨?_, hl, rfl, rfl, fun j _ => rfl, fun e => absurd h1 e, fun _ => adR_lt ha⟩
     unfold fixL
     rw [hw', if_pos h1]
     show x = w ++ 32 :: dotS a
     rw [adR_dot ha, hx]
   ·rename_i h1
    cases ha : numR v with
    | none => rw [ha] at h; cases h
    | some n =>
     rw [ha] at h
     injection h with h
     subst h
     refine ⟨?_, by simpa using hl, rfl, rfl, fun j hj => ?_, fun _ => rfl, fun e => absurd e h1⟩
     ·unfold fixL
      rw [hw', if_neg h1]
      have : num { c with nums := c.nums.set i (n : Int) } i = n := by
       unfold num
       rw [List.getD_eq_getElem?_getD, List.getElem?_set_self (by omega)]
       rfl
      rw [this, Int.toNat_natCast, numR_dec ha, hx]
     ·have hj' : j ≠ i := hj.resolve_right h1
      unfold num
      rw [List.getD_eq_getElem?_getD, List.getD_eq_getElem?_getD, List.getElem?_set_ne (by omega)]
  ·cases h
 ·cases h
theorem fix_all : ∀ (k i : Nat) (ls : List (List UInt8)) (c c' : CfQ), i + k = 18 → k ≤ ls.length → linesM i ls c = some c' → c.nums.length = 18 → (1 < i → c.id < 4294967296) →
  ∃ cm, linesM 18 (ls.drop k) cm = some c' ∧ cm.nums.length = 18 ∧ cm.ifs = c.ifs ∧ cm.deny = c.deny ∧ ls.take k = ((List.range k).map fun j => fixL cm (i + j)) ∧ (∀ j, j < i ∨ j = 1 → num cm j = num c j) ∧ (1 < i → cm.id = c.id) ∧ cm.id < 4294967296
 | 0, i, ls, c, c', hi, _, h, hl, hid => by
  obtain rfl : i = 18 := by omega
  exact ⟨c, h, hl, rfl, rfl, rfl, fun _ _ => rfl, fun _ => rfl, hid (by decide)⟩
 | k + 1, i, ls, c, c', hi, hk, h, hl, hid => by
  cases ls with
  | nil => simp at hk
  | cons x ls =>
   simp only [linesM] at h
   cases hx : lineM i x c with
   | none => rw [hx] at h; cases h
   | some c1 =>
    rw [hx] at h
    simp only at h
    unfold lineM at hx
    rw [if_pos (by omega)] at hx
    obtain ⟨a1, a2, a3, a4, a5, a6, a7⟩ := fix_inv (by omega) hl hx
    have hid1 : 1 < i + 1 → c1.id < 4294967296 := fun _ => by
     by_cases h1 : i = 1
     ·exact a7 h1
     ·rw [a6 h1]
      exact hid (by omega)
    obtain ⟨cm, b1, b2, b3, b4, b5, b6, b7, b8⟩ := fix_all k (i + 1) ls c1 c' (by omega) (by simp at hk; omega) h a2 hid1
    refine ⟨cm, b1, b2, b3.trans a3, b4.trans a4, ?_, fun j hj => ?_, fun h1 => (b7 (by omega)).trans (a6 (by omega)), b8⟩
    ·rw [List.take_succ_cons, b5, List.range_succ_eq_map, List.map_cons, List.map_map]
     congr 1
     ·rw [a1]
      unfold fixL
      rw [Nat.add_zero, b6 i (.inl (by omega))]
      by_cases h1 : i = 1
      ·rw [if_pos h1, if_pos h1, b7 (by omega)]
      ·rw [if_neg h1, if_neg h1]
     ·exact List.map_congr_left fun j _ => by show fixL cm (i + 1 + j) = fixL cm (i + (j + 1)); congr 1; omega
    ·rw [b6 j (by omega)]
     by_cases h1 : i = 1
     ·exact a5 j (.inr h1)
     ·exact a5 j (.inl (by omega))
theorem more_all : ∀ (ls : List (List UInt8)) (i : Nat) (c c' : CfQ), 18 ≤ i → linesM i ls c = some c' →
  ∃ I D, c'.ifs = c.ifs ++ I ∧ c'.deny = c.deny ++ D ∧ c'.nums = c.nums ∧ c'.id = c.id ∧ ls = I.map ifL ++ D.map denyL ∧ (c.deny ≠ [] → I = []) ∧ ∀ x ∈ I, x.a < 4294967296
 | [], i, c, c', _, h => by
  injection h with h
  subst h
  exact ⟨[], [], by simp, by simp, rfl, rfl, rfl, fun _ => rfl, fun x hx => by cases hx⟩
 | x :: ls, i, c, c', hi, h => by
  simp only [linesM] at h
  cases hx : lineM i x c with
  | none => rw [hx] at h; cases h
  | some c1 =>
   rw [hx] at h
   simp only at h
   unfold lineM at hx
   rw [if_neg (by omega)] at hx
   obtain ⟨I, D, b1, b2, b3, b4, b5, b6, b7⟩ := more_all ls (i + 1) c1 c' (by omega) h
   unfold moreM at hx
   split at hx
   ·rename_i w v hs
    split at hx
    ·rename_i hw
     cases hn : numR v with
     | none => rw [hn] at hx; cases hx
     | some n =>
      rw [hn] at hx
      injection hx with hx
      subst hx
      have hI : I = [] := b6 (by simp)
      subst hI
      refine ⟨[], (n : Int) :: D, b1, by rw [b2]; simp, b3, b4, ?_, fun _ => rfl, fun x hx => by cases hx⟩
      rw [b5, two_words hs, hw]
      simp only [List.map_nil, List.nil_append, List.map_cons]
      congr 1
      unfold denyL
      rw [Int.toNat_natCast, numR_dec hn]
    ·cases hx
   ·rename_i w a b p d hs
    split at hx
    ·rename_i hw
     split at hx
     ·rename_i a' b' p' d' e1 e2 e3 e4
      injection hx with hx
      subst hx
      obtain ⟨pa, pn⟩ := p'
      refine ⟨⟨a', b', pa, pn, d'⟩ :: I, D, by rw [b1]; simp, b2, b3, b4, ?_, fun hne => absurd hw.2 hne, fun y hy => ?_⟩
      ·rw [b5]
       simp only [List.map_cons, List.cons_append]
       congr 1
       unfold ifL
       simp only [Int.toNat_natCast]
       rw [numR_dec e1, numR_dec e2, paR_show e3, numR_dec e4, ← hw.1]
       have := inter_splB 32 x
       rw [hs] at this
       simpa [List.intercalate] using this.symm
      ·rcases List.mem_cons.1 hy with e | hy
       ·subst e
        exact (paR_ok e3).1
       ·exact b7 y hy
     ·cases hx
    ·cases hx
   ·cases hx
theorem show_par {ls : List (List UInt8)} {c : CfQ} (h : parL ls = some c) : linesOf c = ls ∧ CfW c ∧ cfOk c = true := by
 unfold parL at h
 split at h
 ·cases h
 ·rename_i hlen
  split at h
  ·cases h
  ·rename_i c1 h1
   split at h
   ·rename_i hok
    injection h with h
    subst h
    obtain ⟨cm, a1, a2, a3, a4, a5, a6, a7, a8⟩ := fix_all 18 0 ls cf0 c1 (by decide) (by omega) h1 rfl (fun h => by omega)
    obtain ⟨I, D, b1, b2, b3, b4, b5, b6, b7⟩ := more_all _ 18 cm c1 (Nat.le_refl _) a1
    have hI : c1.ifs = I := by rw [b1, a3]; rfl
    have hD : c1.deny = D := by rw [b2, a4]; rfl
    have hn : ∀ j, num c1 j = num cm j := fun j => by unfold num; rw [b3]
    refine ⟨?_, ⟨by rw [b3]; exact a2, by rw [hn, a6 1 (.inr rfl)]; rfl, by rw [b4]; exact a8, by rw [hI]; exact b7⟩, hok⟩
    unfold linesOf
    rw [hI, hD, List.append_assoc, ← b5]
    have : (List.range 18).map (fixL c1) = ls.take 18 := by
     rw [a5]
     refine List.map_congr_left fun j _ => ?_
     unfold fixL
     rw [Nat.zero_add, hn, b4]
    rw [this, List.take_append_drop]
   ·cases h
theorem linesOf_low (c : CfQ) : ∀ x ∈ linesOf c, ∀ y ∈ x, y ≠ (10 : UInt8) := by
 intro x hx y hy
 have hd : ∀ n : Nat, ∀ x ∈ decD n, 32 ≤ x.toNat := fun n x hx => by have := (decD_dig n x hx).1; omega
 have key : 32 ≤ y.toNat := by
  unfold linesOf at hx
  rcases List.mem_append.1 hx with h | h
  ·rcases List.mem_append.1 h with h | h
   ·obtain ⟨i, hi, rfl⟩ := List.mem_map.1 h
    have hi := List.mem_range.1 hi
    unfold fixL at hy
    rcases List.mem_append.1 hy with h | h
    ·have := words_low i hi y h
     omega
    ·rcases List.mem_cons.1 h with h | h
     ·subst h; decide
     ·split at h
      ·have := dotS_low _ y h
       omega
      ·exact hd _ y h
   ·obtain ⟨z, _, rfl⟩ := List.mem_map.1 h
    unfold ifL ifaceW at hy
    simp only [List.mem_append, List.mem_cons, List.mem_nil_iff, or_false] at hy
    rcases hy with ((h | h | h | h | h) | h | h | h | h | h | h | h | h)
    all_goals first | (subst h; decide) | exact hd _ y h | (have := shoS_low _ _ y h; omega)
  ·obtain ⟨z, _, rfl⟩ := List.mem_map.1 h
   unfold denyL denyW at hy
   simp only [List.mem_append, List.mem_cons, List.mem_nil_iff, or_false] at hy
   rcases hy with ((h | h | h | h) | h | h)
   all_goals first | (subst h; decide) | exact hd _ y h
 exact ne_of_low key (by decide)
theorem linesOf_ne (c : CfQ) : linesOf c ≠ [] := by
 intro h
 have := congrArg List.length h
 simp [linesOf] at this
theorem parM_txt (c : CfQ) (hw : CfW c) (h : cfOk c = true) : parM (txt (linesOf c)) = some c := by
 obtain ⟨h1, h2⟩ := splB_txt _ (linesOf_ne c) (linesOf_low c)
 unfold parM
 rw [if_pos h1, h2]
 exact par_show c hw h
theorem txt_parM {s : List UInt8} {c : CfQ} (h : parM s = some c) : txt (linesOf c) = s ∧ CfW c ∧ cfOk c = true := by
 unfold parM at h
 split at h
 ·rename_i hs
  obtain ⟨a, b, d⟩ := show_par h
  rw [a, txt_splB s hs]
  exact ⟨rfl, b, d⟩
 ·cases h
theorem lines_fix (c : CfQ) (i : Nat) (h : i < 18) : (linesOf c)[i]? = some (fixL c i) := by
 unfold linesOf
 rw [List.append_assoc, List.getElem?_append_left (by simpa using h), List.getElem?_map, List.getElem?_range h]
 rfl
theorem snocI {α : Type} {motive : List α → Prop} (nil : motive []) (append_singleton : ∀ l a, motive l → motive (l ++ [a])) (l : List α) : motive l := by
 have h : ∀ r : List α, motive r.reverse := by
  intro r
  induction r with
  | nil => exact nil
  | cons a r ih => rw [List.reverse_cons]; exact append_singleton _ a ih
 have := h l.reverse
 rwa [List.reverse_reverse] at this
def setL {κ : Type} [DecidableEq κ] (l : List κ) : List (κ × Bool) := l.foldl (fun m k => stL k true m) []
theorem setL_snoc {κ : Type} [DecidableEq κ] (l : List κ) (k : κ) : setL (l ++ [k]) = stL k true (setL l) := by simp [setL]
theorem stL_keys {κ ν : Type} [DecidableEq κ] (k : κ) (v : ν) : ∀ m : List (κ × ν), (∀ x, x ∈ (stL k v m).map (·.1) ↔ x = k ∨ x ∈ m.map (·.1)) ∧ (stL k v m).length = if k ∈ m.map (·.1) then m.length else m.length + 1
 | [] => by simp [stL]
 | y :: m => by
  obtain ⟨h1, h2⟩ := stL_keys k v m
  unfold stL
  by_cases hk : k = y.1
  ·rw [if_pos hk]
   constructor
   ·intro x
    simp only [List.map_cons, List.mem_cons, ← hk]
    constructor
    ·rintro (h | h)
     ·exact .inl h
     ·exact .inr (.inr h)
    ·rintro (h | h | h)
     ·exact .inl h
     ·exact .inl h
     ·exact .inr h
   ·rw [if_pos (by simp [hk])]
    rfl
  ·rw [if_neg hk]
   constructor
   ·intro x
    simp only [List.map_cons, List.mem_cons]
    rw [h1 x]
    constructor
    ·rintro (h | h | h)
     ·exact .inr (.inl h)
     ·exact .inl h
     ·exact .inr (.inr h)
    ·rintro (h | h | h)
     ·exact .inr (.inl h)
     ·exact .inl h
     ·exact .inr (.inr h)
   ·simp only [List.length_cons, h2, List.map_cons, List.mem_cons, hk, false_or]
    split <;> rfl
theorem setL_keys {κ : Type} [DecidableEq κ] (l : List κ) : ∀ x, x ∈ (setL l).map (·.1) ↔ x ∈ l := by
 induction l using snocI with
 | nil => intro x; simp [setL]
 | append_singleton l k ih =>
  intro x
  rw [setL_snoc, (stL_keys k true (setL l)).1 x, ih x]
  simp [or_comm]
theorem setL_len {κ : Type} [DecidableEq κ] (l : List κ) (k : κ) : (setL (l ++ [k])).length = if k ∈ l then (setL l).length else (setL l).length + 1 := by
 rw [setL_snoc, (stL_keys k true (setL l)).2]
 by_cases h : k ∈ l
 ·rw [if_pos ((setL_keys l k).2 h), if_pos h]
 ·rw [if_neg (fun e => h ((setL_keys l k).1 e)), if_neg h]
theorem setL_nodup {κ : Type} [DecidableEq κ] (l : List κ) : (setL l).length ≤ l.length ∧ ((setL l).length = l.length ↔ l.Nodup) := by
 induction l using snocI with
 | nil => simp [setL]
 | append_singleton l k ih =>
  rw [setL_len]
  simp only [List.length_append, List.length_cons, List.length_nil]
  by_cases h : k ∈ l
  ·rw [if_pos h]
   refine ⟨by omega, ⟨fun e => by omega, fun e => ?_⟩⟩
   rw [List.nodup_append] at e
   exact absurd rfl (e.2.2 k h k (List.mem_singleton.2 rfl))
  ·rw [if_neg h]
   refine ⟨by omega, ⟨fun e => ?_, fun e => ?_⟩⟩
   ·rw [List.nodup_append]
    exact ⟨ih.2.1 (by omega), by simp, fun a ha b hb e => h (by rw [List.mem_singleton.1 hb] at e; exact e ▸ ha)⟩
   ·rw [List.nodup_append] at e
    have := ih.2.2 e.1
    omega
theorem setL_lt {κ : Type} [DecidableEq κ] (l : List κ) : decide (((setL l).length : Int) < l.length) = !decide l.Nodup := by
 obtain ⟨h1, h2⟩ := setL_nodup l
 by_cases h : l.Nodup
 ·rw [decide_eq_true h, decide_eq_false (by have := h2.2 h; omega)]
  rfl
 ·rw [decide_eq_false h, decide_eq_true (by have : (setL l).length ≠ l.length := fun e => h (h2.1 e); omega)]
  rfl
theorem nodup_take {α : Type} (l : List α) (i : Nat) (x : α) (hx : l[i]? = some x) : (l.take (i + 1)).Nodup ↔ (l.take i).Nodup ∧ ∀ (k : Nat) (y : α), k < i → l[k]? = some y → y ≠ x := by
 have e : l.take (i + 1) = l.take i ++ [x] := by rw [List.take_add_one, hx]; rfl
 rw [e, List.nodup_append]
 constructor
 ·rintro ⟨h1, _, h3⟩
  exact ⟨h1, fun k y hk hy => h3 y (List.mem_of_getElem? (i := k) (by rw [List.getElem?_take_of_lt hk]; exact hy)) x (List.mem_singleton.2 rfl)⟩
 ·rintro ⟨h1, h3⟩
  refine ⟨h1, by simp, fun a ha b hb => ?_⟩
  rw [List.mem_singleton.1 hb]
  obtain ⟨k, hk⟩ := List.getElem?_of_mem ha
  have hki : k < i := by
   have := (List.getElem?_eq_some_iff.1 hk).1
   rw [List.length_take] at this
   omega
  rw [List.getElem?_take_of_lt hki] at hk
  exact h3 k a hki hk
end Go.Proofs.YtbhiojedmkcfoaaGreatDoor
