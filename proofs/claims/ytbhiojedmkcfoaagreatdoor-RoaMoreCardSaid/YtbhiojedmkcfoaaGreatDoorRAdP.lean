/- Part of a proof of many texts: what the theorem at its end leans on. -/
import Derived.Test.YtbhiojedmkcfoaaGreatDoorRAdS
import Derived.Test.YtbhiojedmkcfoaaGreatDoorRAd0
import Derived.Test.YtbhiojedmkcfoaaGreatDoorRKc
namespace Go.Proofs.YtbhiojedmkcfoaaGreatDoor
set_option linter.unusedVariables false
set_option linter.unusedSimpArgs false
open Go.RowKit
attribute [local irreducible] HC HX HO Tri eP adr
def digs : Nat → List UInt8 → Option Nat
 | n, [] => some n
 | n, b :: l => if 48 ≤ b.toNat ∧ b.toNat ≤ 57 then digs (10 * n + (b.toNat - 48)) l else none
def smR (l : List UInt8) : Option Nat := if l.length < 1 ∨ 3 < l.length ∨ (l.head? = some 48 ∧ 1 < l.length) then none else digs 0 l
def smM (m : Nat) (l : List UInt8) : Option Nat := match smR l with
 | none => none
 | some n => if n ≤ m then some n else none
def foldA : Nat → List (List UInt8) → Option Nat
 | a, [] => some a
 | a, x :: r => match smM 255 x with
  | none => none
  | some n => foldA (256 * a + n) r
def adR (l : List UInt8) : Option Nat := if (splB 46 l).length = 4 then foldA 0 (splB 46 l) else none
def paR (l : List UInt8) : Option (Nat × Nat) := if (cutC 47 l).2.2 = true then match adR (cutC 47 l).1, smM 32 (cutC 47 l).2.1 with
  | some a, some n => if okX a n = true then some (a, n) else none
  | _, _ => none
 else none
def dots (a : Nat) : List (List UInt8) := [dec3 (a / 16777216 % 256), dec3 (a / 65536 % 256), dec3 (a / 256 % 256), dec3 (a % 256)]
def dotS (a : Nat) : List UInt8 := joinS (dots a)
def shoS (a : Nat) (n : Int) : List UInt8 := if okX a n = true then dotS a ++ 47 :: dec3 n.toNat else [63]
theorem join4 (a b c d : List UInt8) : joinS [a, b, c, d] = a ++ 46 :: (b ++ 46 :: (c ++ 46 :: d)) := by
 simp [joinS, Lib.join, List.intercalate]
theorem smM_le {m : Nat} {l : List UInt8} {n : Nat} (h : smM m l = some n) : n ≤ m := by
 unfold smM at h
 split at h
 ·cases h
 ·split at h
  ·injection h with h
   subst h
   assumption
  ·cases h
theorem foldA_lt : ∀ (l : List (List UInt8)) (a v : Nat), foldA a l = some v → v < (a + 1) * 256 ^ l.length
 | [], a, v, h => by
  injection h with h
  subst h
  simp
 | x :: l, a, v, h => by
  unfold foldA at h
  split at h
  ·cases h
  ·rename_i n hn
   have h1 := smM_le hn
   have := foldA_lt l _ v h
   rw [List.length_cons, Nat.pow_succ]
   refine Nat.lt_of_lt_of_le this ?_
   rw [Nat.mul_comm (256 ^ l.length) 256, ← Nat.mul_assoc]
   exact Nat.mul_le_mul_right _ (by omega)
theorem adR_lt {l : List UInt8} {a : Nat} (h : adR l = some a) : a < 4294967296 := by
 unfold adR at h
 split at h
 ·rename_i hl
  have := foldA_lt _ _ _ h
  rw [hl] at this
  exact this
 ·cases h
def hoX (a : Nat) (n : Int) (b : Nat) : Bool := okX a n && (decide (((topN b (clN n) : Nat) : Int) = (a : Nat)) && decide (((clN n : Nat) : Int) = n))
def wiX (a : Nat) (n : Int) (b : Nat) (m : Int) : Bool := okX b m && (decide (n ≤ m) && hoX a n b)
theorem topN_low (a n m : Nat) (h : n ≤ m) : topN (topN a m) n = topN a n := by
 unfold topN
 have e : (2 : Nat) ^ (32 - n) = 2 ^ (32 - m) * 2 ^ (32 - n - (32 - m)) := by rw [← Nat.pow_add]; congr 1; omega
 rw [e, ← Nat.div_div_eq_div_mul, Nat.mul_div_cancel _ (Nat.pow_pos (by decide)), Nat.div_div_eq_div_mul]
theorem okX_top1 (a n : Nat) (hn : n ≤ 32) : okX (topN a n) n = true := by
 unfold okX
 rw [clN_nat n hn, topN_low a n n (Nat.le_refl _)]
 simp
theorem hoX_nat (a n b : Nat) (hn : n ≤ 32) : hoX a n b = (okX a n && decide (topN b n = a)) := by
 unfold hoX
 rw [clN_nat n hn]
 congr 1
 rw [decide_eq_true (rfl : ((n : Nat) : Int) = n), Bool.and_true]
 exact decide_eq_decide.2 (by omega)
theorem hoX_true {a : Nat} {n : Int} {b : Nat} (h : hoX a n b = true) : okX a n = true ∧ topN b n.toNat = a := by
 unfold hoX at h
 simp only [Bool.and_eq_true, decide_eq_true_eq] at h
 obtain ⟨h1, h2, h3⟩ := h
 refine ⟨h1, ?_⟩
 have : clN n = n.toNat := by omega
 rw [this] at h2
 omega
theorem apart (a : Nat) (n : Int) (b : Nat) (m : Int) (x : Nat) (h1 : hoX a n x = true) (h2 : hoX b m x = true) : wiX a n b m = true ∨ wiX b m a n = true := by
 obtain ⟨o1, t1⟩ := hoX_true h1
 obtain ⟨o2, t2⟩ := hoX_true h2
 have l1 := okX_len o1
 have l2 := okX_len o2
 obtain ⟨n', rfl⟩ : ∃ k : Nat, n = k := ⟨n.toNat, by omega⟩
 obtain ⟨m', rfl⟩ : ∃ k : Nat, m = k := ⟨m.toNat, by omega⟩
 rw [Int.toNat_natCast] at t1 t2
 rcases Nat.le_total n' m' with h | h
 ·left
  unfold wiX
  rw [o2, hoX_nat _ _ _ (by omega), o1, ← t2, topN_low _ _ _ h, t1]
  simp
  omega
 ·right
  unfold wiX
  rw [o1, hoX_nat _ _ _ (by omega), o2, ← t1, topN_low _ _ _ h, t2]
  simp
  omega
def bitN (a : Nat) (i : Int) : Nat := if i < 0 ∨ 31 < i then 0 else a / 2 ^ (31 - i.toNat) % 2
@[reducible] def decD (n : Nat) : List UInt8 := Lib.decDigits n
def numR (l : List UInt8) : Option Nat := if l.length < 1 ∨ 16 < l.length ∨ (l.head? = some 48 ∧ 1 < l.length) then none else digs 0 l
theorem snocI {α : Type} {motive : List α → Prop} (nil : motive []) (append_singleton : ∀ l a, motive l → motive (l ++ [a])) (l : List α) : motive l := by
 have h : ∀ r : List α, motive r.reverse := by
  intro r
  induction r with
  | nil => exact nil
  | cons a r ih => rw [List.reverse_cons]; exact append_singleton _ a ih
 have := h l.reverse
 rwa [List.reverse_reverse] at this
def setL {κ : Type} [DecidableEq κ] (l : List κ) : List (κ × Bool) := l.foldl (fun m k => stL k true m) []
theorem setL_snoc {κ : Type} [DecidableEq κ] (l : List κ) (k : κ) : setL (l ++ [k]) = stL k true (setL l) := by simp [setL]
theorem nodup_take {α : Type} (l : List α) (i : Nat) (x : α) (hx : l[i]? = some x) : (l.take (i + 1)).Nodup ↔ (l.take i).Nodup ∧ ∀ (k : Nat) (y : α), k < i → l[k]? = some y → y ≠ x := by
 have e : l.take (i + 1) = l.take i ++ [x] := by rw [List.take_add_one, hx]; rfl
 rw [e, List.nodup_append]
 constructor
 ·rintro ⟨h1, _, h3⟩
  exact ⟨h1, fun k y hk hy => h3 y (List.mem_of_getElem? (i := k) (by rw [List.getElem?_take_of_lt hk]; exact hy)) x (List.mem_singleton.2 rfl)⟩
 ·rintro ⟨h1, h3⟩
  refine ⟨h1, by simp, fun a ha b hb => ?_⟩
  rw [List.mem_singleton.1 hb]
  obtain ⟨k, hk⟩ := List.getElem?_of_mem ha
  have hki : k < i := by
   have := (List.getElem?_eq_some_iff.1 hk).1
   rw [List.length_take] at this
   omega
  rw [List.getElem?_take_of_lt hki] at hk
  exact h3 k a hki hk
end Go.Proofs.YtbhiojedmkcfoaaGreatDoor
