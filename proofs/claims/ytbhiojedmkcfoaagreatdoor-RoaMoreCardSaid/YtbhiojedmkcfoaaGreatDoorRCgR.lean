/- Part of a proof of many texts: what the theorem at its end leans on. -/
import Derived.Test.YtbhiojedmkcfoaaGreatDoorRRow
import Derived.Test.YtbhiojedmkcfoaaGreatDoorRAdS
import Derived.Test.YtbhiojedmkcfoaaGreatDoorRCfF
import Derived.Test.YtbhiojedmkcfoaaGreatDoorRAdV
namespace Go.Proofs.YtbhiojedmkcfoaaGreatDoor
set_option linter.unusedVariables false
set_option linter.unusedSimpArgs false
open Go.RowKit Go.ChangeShapes Go.WideShapes Go.Deep
theorem pow_laid : (Rows.laid_internal_strconv_uint64pow10 : DataW Unit) = Lib.tabData .u64 Lib.pow10Tab := by kernel_rfl
theorem glbs_of {W : World} {name : String} {g : Nat} {cs : Array Value} (hg : Tryz.prog.globalNamed name = some g) (hv : W.var? Tryz.prog name = some cs) : (glbs g cs).p (fun b => b < W.heap.size) W := by
 have hv' := hv
 unfold World.var? at hv'
 rw [hg] at hv'
 dsimp only [Option.bind_some] at hv'
 split at hv'
 ·rename_i cs' T fz hh1
  injection hv' with hv'
  subst hv'
  refine ⟨?_, T, fz, hh1⟩
  rcases Nat.lt_or_ge g W.heap.size with h | h
  ·exact h
  ·rw [Array.getElem?_eq_none h] at hh1
   cases hh1
 ·cases hv'
end Go.Proofs.YtbhiojedmkcfoaaGreatDoor
