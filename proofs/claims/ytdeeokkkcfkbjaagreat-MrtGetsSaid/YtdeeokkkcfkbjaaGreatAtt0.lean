/- How bytes, numbers, segments and attributes lie in cells. -/
import Derived.Test.YtdeeokkkcfkbjaaGreatTypes
import Derived.Test.YtdeeokkkcfkbjaaGreatPNum
import Derived.Test.YtdeeokkkcfkbjaaGreatEng14
namespace Go.Proofs.YtdeeokkkcfkbjaaGreat
set_option linter.unusedVariables false
set_option linter.unusedSimpArgs false
open Go.RowKit

def bE (b : UInt8) : List Value := [.int .u8 b.toNat]
def iE (n : Int) : List Value := [.int .i64 n]
instance : EncOk bE 1 := ⟨fun _ => ⟨rfl, rfl⟩⟩
instance : EncOk iE 1 := ⟨fun _ => ⟨rfl, rfl⟩⟩
@[reducible] def OA := Option Addr × Nat
/-- a row of bytes of the call's own -/
@[reducible] def ownB (x : OA) (l : List UInt8) : SL := own idE 5 1 x.1 l.length x.2 (l.map bE)
theorem u8_wrap (n : Int) (h : 0 ≤ n) : IntKind.u8.wrap n = ((UInt8.ofNat n.toNat).toNat : Int) := by
  simp [IntKind.wrap, IntKind.bits, IntKind.signed]; omega
theorem shr_nat (k q : Nat) (hq : q ≤ 64) : bShr .i64 (k : Int) q = ((k / 2 ^ q : Nat) : Int) := by
  unfold bShr
  have : min q IntKind.i64.bits = q := by simp [IntKind.bits]; omega
  rw [this, Int.fdiv_eq_ediv_of_nonneg _ (Int.pow_nonneg (by decide))]
  simp
end Go.Proofs.YtdeeokkkcfkbjaaGreat
