/- Texts of prefixes and addresses: what is computed, and that what is shown is parsed; the laws of prefixes in plain numbers. -/
import Derived.Test.YtbhiojedmkcfoaaGreatDoorAdS
import Derived.Test.YtbhiojedmkcfoaaGreatDoorAd0
namespace Go.Proofs.YtbhiojedmkcfoaaGreatDoor
set_option linter.unusedVariables false
set_option linter.unusedSimpArgs false
open Go.RowKit
attribute [local irreducible] HC HX HO Tri eP adr

/-- the number of digits -/
def digs : Nat → List UInt8 → Option Nat
  | n, [] => some n
  | n, b :: l => if 48 ≤ b.toNat ∧ b.toNat ≤ 57 then digs (10 * n + (b.toNat - 48)) l else none
/-- the number of a text of one to three digits -/
def smR (l : List UInt8) : Option Nat := if l.length < 1 ∨ 3 < l.length ∨ (l.head? = some 48 ∧ 1 < l.length) then none else digs 0 l
def smM (m : Nat) (l : List UInt8) : Option Nat := match smR l with
  | none => none
  | some n => if n ≤ m then some n else none
def foldA : Nat → List (List UInt8) → Option Nat
  | a, [] => some a
  | a, x :: r => match smM 255 x with
    | none => none
    | some n => foldA (256 * a + n) r
/-- the address of a text -/
def adR (l : List UInt8) : Option Nat := if (splB 46 l).length = 4 then foldA 0 (splB 46 l) else none
/-- the prefix of a text -/
def paR (l : List UInt8) : Option (Nat × Nat) := if (cutC 47 l).2.2 = true then match adR (cutC 47 l).1, smM 32 (cutC 47 l).2.1 with
    | some a, some n => if okX a n = true then some (a, n) else none
    | _, _ => none
  else none
/-- the prefix of a text, as it is split -/
def paQ (l : List UInt8) : Option (Nat × Nat) := match splB 47 l with
  | [x, y] => match adR x, smM 32 y with
    | some a, some n => if okX a n = true then some (a, n) else none
    | _, _ => none
  | _ => none
def dots (a : Nat) : List (List UInt8) := [dec3 (a / 16777216 % 256), dec3 (a / 65536 % 256), dec3 (a / 256 % 256), dec3 (a % 256)]
/-- an address as a text -/
def dotS (a : Nat) : List UInt8 := joinS (dots a)
/-- a prefix as a text -/
def shoS (a : Nat) (n : Int) : List UInt8 := if okX a n = true then dotS a ++ 47 :: dec3 n.toNat else [63]
theorem splB_ne (c : UInt8) (l : List UInt8) : splB c l ≠ [] := by
  cases l with
  | nil => simp [splB]
  | cons x l =>
    unfold splB
    split
    · simp
    · split <;> simp
theorem splB_none (c : UInt8) : ∀ l : List UInt8, (∀ x ∈ l, x ≠ c) → splB c l = [l]
  | [], _ => rfl
  | x :: l, h => by
    have ih := splB_none c l fun y hy => h y (List.mem_cons_of_mem _ hy)
    unfold splB
    rw [if_neg (h x List.mem_cons_self), ih]
theorem splB_app (c : UInt8) (r : List UInt8) : ∀ l : List UInt8, (∀ x ∈ l, x ≠ c) → splB c (l ++ c :: r) = l :: splB c r
  | [], _ => by show splB c (c :: r) = _; conv => lhs; unfold splB
                rw [if_pos rfl]
  | x :: l, h => by
    have ih := splB_app c r l fun y hy => h y (List.mem_cons_of_mem _ hy)
    show splB c (x :: (l ++ c :: r)) = _
    conv => lhs; unfold splB
    rw [if_neg (h x List.mem_cons_self), ih]
theorem cutC_app (c : UInt8) (r : List UInt8) : ∀ l : List UInt8, (∀ x ∈ l, x ≠ c) → cutC c (l ++ c :: r) = (l, r, true)
  | [], _ => by show cutC c (c :: r) = _; unfold cutC
                rw [if_pos rfl]
  | x :: l, h => by
    have ih := cutC_app c r l fun y hy => h y (List.mem_cons_of_mem _ hy)
    show cutC c (x :: (l ++ c :: r)) = _
    unfold cutC
    rw [if_neg (h x List.mem_cons_self), ih]
theorem cutC_none (c : UInt8) : ∀ l : List UInt8, (∀ x ∈ l, x ≠ c) → (cutC c l).2.2 = false
  | [], _ => rfl
  | x :: l, h => by
    have ih := cutC_none c l fun y hy => h y (List.mem_cons_of_mem _ hy)
    unfold cutC
    rw [if_neg (h x List.mem_cons_self)]
    exact ih
theorem splB_cut (c : UInt8) : ∀ l : List UInt8, splB c l = if (cutC c l).2.2 = true then (cutC c l).1 :: splB c (cutC c l).2.1 else [l]
  | [] => rfl
  | x :: l => by
    have ih := splB_cut c l
    by_cases h : x = c
    · subst h
      conv => lhs; unfold splB
      unfold cutC
      rw [if_pos rfl, if_pos rfl, if_pos rfl]
    · conv => lhs; unfold splB
      unfold cutC
      rw [if_neg h, if_neg h, ih]
      by_cases h2 : (cutC c l).2.2 = true
      · rw [if_pos h2, if_pos h2]
      · rw [if_neg h2, if_neg h2]
theorem digs_none (b : UInt8) (hb : b.toNat < 48) : ∀ (l : List UInt8) (n : Nat), b ∈ l → digs n l = none
  | x :: l, n, h => by
    unfold digs
    rcases List.mem_cons.1 h with e | h
    · subst e
      rw [if_neg (by omega)]
    · split
      · exact digs_none b hb l _ h
      · rfl
theorem smR_none (b : UInt8) (hb : b.toNat < 48) (l : List UInt8) (h : b ∈ l) : smR l = none := by
  unfold smR
  split
  · rfl
  · exact digs_none b hb l 0 h
theorem paQ_eq (l : List UInt8) : paQ l = paR l := by
  unfold paQ paR
  rw [splB_cut 47 l]
  by_cases h : (cutC 47 l).2.2 = true
  · rw [if_pos h, if_pos h]
    by_cases h2 : ∀ x ∈ (cutC 47 l).2.1, x ≠ 47
    · rw [splB_none 47 _ h2]
    · have hm : (47 : UInt8) ∈ (cutC 47 l).2.1 := by
        refine Classical.byContradiction fun hc => h2 fun x hx e => hc (e ▸ hx)
      have e1 : smM 32 (cutC 47 l).2.1 = none := by
        unfold smM
        rw [smR_none 47 (by decide) _ hm]
      have e2 : ∃ y z r, splB 47 (cutC 47 l).2.1 = y :: z :: r := by
        rw [splB_cut 47 (cutC 47 l).2.1]
        by_cases h3 : (cutC 47 (cutC 47 l).2.1).2.2 = true
        · rw [if_pos h3]
          cases h4 : splB 47 (cutC 47 (cutC 47 l).2.1).2.1 with
          | nil => exact absurd h4 (splB_ne _ _)
          | cons z r => exact ⟨_, z, r, rfl⟩
        · exfalso
          apply h3
          have : ∀ t : List UInt8, (47 : UInt8) ∈ t → (cutC 47 t).2.2 = true := by
            intro t
            induction t with
            | nil => intro h; cases h
            | cons x t ih =>
              intro h
              unfold cutC
              by_cases hx : x = 47
              · rw [if_pos hx]
              · rw [if_neg hx]
                rcases List.mem_cons.1 h with e | h
                · exact absurd e.symm hx
                · exact ih h
          exact this _ hm
      obtain ⟨y, z, r, e2⟩ := e2
      rw [e2, e1]
      cases adR (cutC 47 l).1 <;> rfl
  · rw [if_neg h, if_neg h]
theorem dec3_dig : ∀ n, n < 1000 → ∀ x ∈ dec3 n, 48 ≤ x.toNat ∧ x.toNat ≤ 57 := by
  have h : ((List.range 1000).all fun n => (dec3 n).all fun x => decide (48 ≤ x.toNat ∧ x.toNat ≤ 57)) = true := by decide +kernel
  intro n hn x hx
  have h1 := List.all_eq_true.1 h n (List.mem_range.2 hn)
  exact of_decide_eq_true (List.all_eq_true.1 h1 x hx)
theorem dec3_ne (n : Nat) (hn : n < 1000) (c : UInt8) (hc : c.toNat < 48) : ∀ x ∈ dec3 n, x ≠ c := fun x hx e => by
  have := (dec3_dig n hn x hx).1
  subst e
  omega
theorem sm255 : ∀ n, n < 256 → smM 255 (dec3 n) = some n := by
  have h : ((List.range 256).all fun n => decide (smM 255 (dec3 n) = some n)) = true := by decide +kernel
  intro n hn
  exact of_decide_eq_true (List.all_eq_true.1 h n (List.mem_range.2 hn))
theorem sm32 : ∀ n, n < 33 → smM 32 (dec3 n) = some n := by
  have h : ((List.range 33).all fun n => decide (smM 32 (dec3 n) = some n)) = true := by decide +kernel
  intro n hn
  exact of_decide_eq_true (List.all_eq_true.1 h n (List.mem_range.2 hn))
theorem join4 (a b c d : List UInt8) : joinS [a, b, c, d] = a ++ 46 :: (b ++ 46 :: (c ++ 46 :: d)) := by
  simp [joinS, Lib.join, List.intercalate]
theorem split_dots (a : Nat) : splB 46 (dotS a) = dots a := by
  have hd := fun n : Nat => dec3_ne (n % 256) (by omega) 46 (by decide)
  unfold dotS dots
  rw [join4, splB_app 46 _ _ (hd _), splB_app 46 _ _ (hd _), splB_app 46 _ _ (hd _), splB_none 46 _ (hd _)]
theorem adR_dotS (a : Nat) (ha : a < 4294967296) : adR (dotS a) = some a := by
  unfold adR
  rw [split_dots]
  unfold dots
  rw [if_pos (by rfl)]
  simp only [foldA, sm255 _ (Nat.mod_lt _ (show 0 < 256 by decide))]
  congr 1
  omega
theorem dotS_ne (a : Nat) : ∀ x ∈ dotS a, x ≠ 47 := by
  have hd := fun n : Nat => dec3_ne (n % 256) (by omega) 47 (by decide)
  unfold dotS dots
  rw [join4]
  intro x hx
  simp only [List.mem_append, List.mem_cons] at hx
  rcases hx with h | h | h | h | h | h | h
  · exact hd _ x h
  · subst h; decide
  · exact hd _ x h
  · subst h; decide
  · exact hd _ x h
  · subst h; decide
  · exact hd _ x h
theorem paR_shoS (a : Nat) (ha : a < 4294967296) (n : Int) : paR (shoS a n) = if okX a n = true then some (a, n.toNat) else none := by
  unfold shoS
  by_cases h : okX a n = true
  · have hl := okX_len h
    have hn : ((n.toNat : Nat) : Int) = n := by omega
    rw [if_pos h, if_pos h]
    unfold paR
    rw [cutC_app 47 _ _ (dotS_ne a), if_pos rfl, adR_dotS a ha, sm32 _ (by omega)]
    show (if okX a ((n.toNat : Nat) : Int) = true then some (a, n.toNat) else none) = _
    rw [hn, if_pos h]
  · rw [if_neg h, if_neg h]
    rfl
theorem digs_lt : ∀ (l : List UInt8) (n v : Nat), digs n l = some v → v < (n + 1) * 10 ^ l.length
  | [], n, v, h => by
    injection h with h
    subst h
    simp
  | b :: l, n, v, h => by
    unfold digs at h
    split at h
    · have := digs_lt l _ v h
      rw [List.length_cons, Nat.pow_succ]
      refine Nat.lt_of_lt_of_le this ?_
      rw [Nat.mul_comm (10 ^ l.length) 10, ← Nat.mul_assoc]
      exact Nat.mul_le_mul_right _ (by omega)
    · cases h
theorem smM_le {m : Nat} {l : List UInt8} {n : Nat} (h : smM m l = some n) : n ≤ m := by
  unfold smM at h
  split at h
  · cases h
  · split at h
    · injection h with h
      subst h
      assumption
    · cases h
theorem foldA_lt : ∀ (l : List (List UInt8)) (a v : Nat), foldA a l = some v → v < (a + 1) * 256 ^ l.length
  | [], a, v, h => by
    injection h with h
    subst h
    simp
  | x :: l, a, v, h => by
    unfold foldA at h
    split at h
    · cases h
    · rename_i n hn
      have h1 := smM_le hn
      have := foldA_lt l _ v h
      rw [List.length_cons, Nat.pow_succ]
      refine Nat.lt_of_lt_of_le this ?_
      rw [Nat.mul_comm (256 ^ l.length) 256, ← Nat.mul_assoc]
      exact Nat.mul_le_mul_right _ (by omega)
theorem adR_lt {l : List UInt8} {a : Nat} (h : adR l = some a) : a < 4294967296 := by
  unfold adR at h
  split at h
  · rename_i hl
    have := foldA_lt _ _ _ h
    rw [hl] at this
    exact this
  · cases h
theorem paR_ok {l : List UInt8} {a n : Nat} (h : paR l = some (a, n)) : a < 4294967296 ∧ okX a n = true := by
  unfold paR at h
  split at h
  · split at h
    · rename_i a' n' e1 e2
      split at h
      · rename_i hx
        injection h with h
        injection h with h1 h2
        subst h1; subst h2
        exact ⟨adR_lt e1, hx⟩
      · cases h
    · cases h
  · cases h
/-- whether a prefix holds an address -/
def hoX (a : Nat) (n : Int) (b : Nat) : Bool := okX a n && (decide (((topN b (clN n) : Nat) : Int) = (a : Nat)) && decide (((clN n : Nat) : Int) = n))
/-- whether a prefix holds another one -/
def wiX (a : Nat) (n : Int) (b : Nat) (m : Int) : Bool := okX b m && (decide (n ≤ m) && hoX a n b)
theorem topN_low (a n m : Nat) (h : n ≤ m) : topN (topN a m) n = topN a n := by
  unfold topN
  have e : (2 : Nat) ^ (32 - n) = 2 ^ (32 - m) * 2 ^ (32 - n - (32 - m)) := by rw [← Nat.pow_add]; congr 1; omega
  rw [e, ← Nat.div_div_eq_div_mul, Nat.mul_div_cancel _ (Nat.pow_pos (by decide)), Nat.div_div_eq_div_mul]
theorem topN_up (a n m : Nat) (h : n ≤ m) : topN (topN a n) m = topN a n := by
  unfold topN
  have e : (2 : Nat) ^ (32 - n) = 2 ^ (32 - n - (32 - m)) * 2 ^ (32 - m) := by rw [← Nat.pow_add]; congr 1; omega
  conv => lhs; rw [e, ← Nat.mul_assoc, Nat.mul_div_cancel _ (Nat.pow_pos (by decide))]
  rw [e, Nat.mul_assoc]
theorem okX_top1 (a n : Nat) (hn : n ≤ 32) : okX (topN a n) n = true := by
  unfold okX
  rw [clN_nat n hn, topN_low a n n (Nat.le_refl _)]
  simp
theorem hoX_nat (a n b : Nat) (hn : n ≤ 32) : hoX a n b = (okX a n && decide (topN b n = a)) := by
  unfold hoX
  rw [clN_nat n hn]
  congr 1
  rw [decide_eq_true (rfl : ((n : Nat) : Int) = n), Bool.and_true]
  exact decide_eq_decide.2 (by omega)
theorem hoX_true {a : Nat} {n : Int} {b : Nat} (h : hoX a n b = true) : okX a n = true ∧ topN b n.toNat = a := by
  unfold hoX at h
  simp only [Bool.and_eq_true, decide_eq_true_eq] at h
  obtain ⟨h1, h2, h3⟩ := h
  refine ⟨h1, ?_⟩
  have : clN n = n.toNat := by omega
  rw [this] at h2
  omega
theorem apart (a : Nat) (n : Int) (b : Nat) (m : Int) (x : Nat) (h1 : hoX a n x = true) (h2 : hoX b m x = true) : wiX a n b m = true ∨ wiX b m a n = true := by
  obtain ⟨o1, t1⟩ := hoX_true h1
  obtain ⟨o2, t2⟩ := hoX_true h2
  have l1 := okX_len o1
  have l2 := okX_len o2
  obtain ⟨n', rfl⟩ : ∃ k : Nat, n = k := ⟨n.toNat, by omega⟩
  obtain ⟨m', rfl⟩ : ∃ k : Nat, m = k := ⟨m.toNat, by omega⟩
  rw [Int.toNat_natCast] at t1 t2
  rcases Nat.le_total n' m' with h | h
  · left
    unfold wiX
    rw [o2, hoX_nat _ _ _ (by omega), o1, ← t2, topN_low _ _ _ h, t1]
    simp
    omega
  · right
    unfold wiX
    rw [o1, hoX_nat _ _ _ (by omega), o2, ← t1, topN_low _ _ _ h, t2]
    simp
    omega
theorem cmp_flip (a : Nat) (n : Int) (b : Nat) (m : Int) : cmpP b m a n = - cmpP a n b m := by
  unfold cmpP cmpN
  by_cases h1 : (a : Int) < b
  · rw [if_pos h1, if_neg (show ¬ (b : Int) < a by omega), if_pos h1]
    rfl
  · by_cases h2 : (b : Int) < a
    · rw [if_pos h2, if_neg h1, if_pos h2]
      rfl
    · rw [if_neg h1, if_neg h2, if_neg h2, if_neg h1]
      by_cases h3 : n < m
      · rw [if_pos h3, if_neg (show ¬ m < n by omega), if_pos h3]
        rfl
      · by_cases h4 : m < n
        · rw [if_pos h4, if_neg h3, if_pos h4]
          rfl
        · rw [if_neg h3, if_neg h4, if_neg h4, if_neg h3]
          rfl
/-- a bit of an address -/
def bitN (a : Nat) (i : Int) : Nat := if i < 0 ∨ 31 < i then 0 else a / 2 ^ (31 - i.toNat) % 2
theorem topN_dvd (a n : Nat) : topN a n = a / 2 ^ (32 - n) * 2 ^ (32 - n) := rfl
/-- the higher half -/
def hiN (a n : Nat) : Nat := topN a n + 2 ^ (31 - n)
theorem or_half (a n : Nat) (hn : n ≤ 31) : topN a n ||| 2 ^ (31 - n) = hiN a n := by
  unfold hiN topN
  have e : 32 - n = (31 - n) + 1 := by omega
  rw [e, Nat.mul_comm, Nat.two_pow_add_eq_or_of_lt (Nat.pow_lt_pow_right (by decide) (by omega))]
theorem hiN_lt (a n : Nat) (ha : a < 4294967296) (hn : n ≤ 31) : hiN a n < 4294967296 := by
  unfold hiN topN
  have e : (4294967296 : Nat) = 2 ^ n * 2 ^ (32 - n) := by rw [← Nat.pow_add, show n + (32 - n) = 32 by omega]
  have h1 : a / 2 ^ (32 - n) < 2 ^ n := by
    rw [Nat.div_lt_iff_lt_mul (Nat.pow_pos (by decide)), ← e]
    exact ha
  have h2 : (2 : Nat) ^ (31 - n) < 2 ^ (32 - n) := Nat.pow_lt_pow_right (by decide) (by omega)
  rw [e]
  have h3 : (a / 2 ^ (32 - n) + 1) * 2 ^ (32 - n) ≤ 2 ^ n * 2 ^ (32 - n) := Nat.mul_le_mul_right _ h1
  rw [Nat.add_mul, Nat.one_mul] at h3
  omega
theorem hiN_top (a n : Nat) (hn : n ≤ 31) : topN (hiN a n) (n + 1) = hiN a n ∧ topN (hiN a n) n = topN a n := by
  have e : 32 - n = (31 - n) + 1 := by omega
  have hp : 0 < 2 ^ (31 - n) := Nat.pow_pos (by decide)
  have e1 : hiN a n = (a / 2 ^ (32 - n) * 2 + 1) * 2 ^ (31 - n) := by
    unfold hiN topN
    conv => lhs; rw [e, Nat.pow_succ]
    conv => rhs; rw [e, Nat.pow_succ]
    rw [Nat.add_mul, Nat.one_mul, Nat.mul_assoc, Nat.mul_comm 2]
  constructor
  · conv => lhs; rw [e1]
    unfold topN
    rw [show 32 - (n + 1) = 31 - n by omega, Nat.mul_div_cancel _ hp]
    exact e1.symm
  · rw [e1]
    show (a / 2 ^ (32 - n) * 2 + 1) * 2 ^ (31 - n) / 2 ^ (32 - n) * 2 ^ (32 - n) = a / 2 ^ (32 - n) * 2 ^ (32 - n)
    generalize a / 2 ^ (32 - n) = q
    rw [e, Nat.pow_succ, ← Nat.div_div_eq_div_mul, Nat.mul_div_cancel _ hp, show (q * 2 + 1) / 2 = q by omega]
theorem holds_plain (a n : Nat) (ha : a < 4294967296) (hn : n ≤ 31) :
    okX (topN a n) n = true ∧ hoX (topN a n) n a = true ∧ hoX (topN a n) ((n + 1 : Nat) : Int) a = !decide (a / 2 ^ (31 - n) % 2 = 1) ∧ hoX (hiN a n) ((n + 1 : Nat) : Int) a = decide (a / 2 ^ (31 - n) % 2 = 1) ∧
    wiX (topN a n) n (topN a n) ((n + 1 : Nat) : Int) = true ∧ wiX (topN a n) n (hiN a n) ((n + 1 : Nat) : Int) = true := by
  have k1 := okX_top1 a n (by omega)
  have hs := topN_step a n (by omega)
  have hp : 0 < 2 ^ (31 - n) := Nat.pow_pos (by decide)
  have hb := Nat.mod_lt (a / 2 ^ (31 - n)) (show 0 < 2 by decide)
  obtain ⟨t1, t2⟩ := hiN_top a n hn
  have k2 : okX (topN a n) ((n + 1 : Nat) : Int) = true := by
    unfold okX
    rw [clN_nat (n + 1) (by omega), topN_up a n (n + 1) (by omega)]
    simp
  have k3 : okX (hiN a n) ((n + 1 : Nat) : Int) = true := by
    unfold okX
    rw [clN_nat (n + 1) (by omega), t1]
    simp
  have hbb : a / 2 ^ (31 - n) % 2 = 0 ∨ a / 2 ^ (31 - n) % 2 = 1 := by omega
  refine ⟨k1, ?_, ?_, ?_, ?_, ?_⟩
  · rw [hoX_nat _ _ _ (by omega), k1]
    simp
  · rw [hoX_nat _ _ _ (by omega), k2, hs]
    rcases hbb with e | e <;> rw [e] <;> simp <;> omega
  · rw [hoX_nat _ _ _ (by omega), k3, hs]
    unfold hiN
    rcases hbb with e | e <;> rw [e] <;> simp <;> omega
  · unfold wiX
    rw [k2, hoX_nat _ _ _ (by omega), k1, topN_low a n n (Nat.le_refl _)]
    simp <;> omega
  · unfold wiX
    rw [k3, hoX_nat _ _ _ (by omega), k1, t2]
    simp <;> omega
end Go.Proofs.YtbhiojedmkcfoaaGreatDoor
