/- Numbers as bytes, in plain Lean: no program in sight. -/
import Derived.Test.YtdeeokkkcfkbjaaDoorWords
namespace Go.Proofs.YtdeeokkkcfkbjaaDoor
set_option linter.unusedVariables false
set_option linter.unusedSimpArgs false

/-- w bytes of a number, the greatest first -/
def be : Nat → Nat → List UInt8
  | 0, _ => []
  | w + 1, n => UInt8.ofNat (n / 256 ^ w) :: be w n
/-- the number of bytes -/
def ge (l : List UInt8) : Nat := l.foldl (fun n b => n * 256 + b.toNat) 0
theorem be_length : ∀ (w n : Nat), (be w n).length = w
  | 0, _ => rfl
  | w + 1, n => by simp [be, be_length w n]
theorem ge_fold (l : List UInt8) : ∀ k : Nat, l.foldl (fun n b => n * 256 + b.toNat) k = k * 256 ^ l.length + ge l := by
  induction l with
  | nil => intro k; simp [ge]
  | cons b l ih =>
    intro k
    have h1 := ih (k * 256 + b.toNat)
    have h2 := ih b.toNat
    simp only [List.foldl_cons, List.length_cons, ge, Nat.zero_mul, Nat.zero_add] at h1 h2 ⊢
    rw [h1, h2, Nat.pow_succ, Nat.add_mul]
    have : k * 256 * 256 ^ l.length = k * (256 ^ l.length * 256) := by rw [Nat.mul_assoc, Nat.mul_comm 256]
    omega
theorem ge_cons (b : UInt8) (l : List UInt8) : ge (b :: l) = b.toNat * 256 ^ l.length + ge l := by
  have := ge_fold l b.toNat
  simpa [ge] using this
theorem ge_snoc (l : List UInt8) (b : UInt8) : ge (l ++ [b]) = ge l * 256 + b.toNat := by simp [ge]
theorem ge_nil : ge [] = 0 := rfl
theorem ge_lt (l : List UInt8) : ge l < 256 ^ l.length := by
  induction l with
  | nil => simp [ge]
  | cons b l ih =>
    rw [ge_cons, List.length_cons, Nat.pow_succ]
    have hb : b.toNat < 256 := b.toNat_lt
    have : b.toNat * 256 ^ l.length + 256 ^ l.length ≤ 256 * 256 ^ l.length := by
      have := Nat.mul_le_mul_right (256 ^ l.length) (show b.toNat + 1 ≤ 256 by omega)
      rw [Nat.add_mul, Nat.one_mul] at this
      exact this
    rw [Nat.mul_comm (256 ^ l.length) 256]
    omega
theorem ge_be (w : Nat) : ∀ n : Nat, ge (be w n) = n % 256 ^ w := by
  induction w with
  | zero => intro n; simp [be, ge_nil, Nat.mod_one]
  | succ w ih =>
    intro n
    rw [be, ge_cons, be_length, ih]
    have e : (UInt8.ofNat (n / 256 ^ w)).toNat = n / 256 ^ w % 256 := by simp
    rw [e, Nat.pow_succ, Nat.mod_mul, Nat.mul_comm (256 ^ w)]
    omega
theorem be_get (w n : Nat) : ∀ i, i < w → (be w n)[i]? = some (UInt8.ofNat (n / 256 ^ (w - 1 - i))) := by
  induction w with
  | zero => intro i h; omega
  | succ w ih =>
    intro i hi
    cases i with
    | zero => simp [be]
    | succ i =>
      rw [be, List.getElem?_cons_succ, ih i (by omega)]
      congr 4
      omega
end Go.Proofs.YtdeeokkkcfkbjaaDoor
