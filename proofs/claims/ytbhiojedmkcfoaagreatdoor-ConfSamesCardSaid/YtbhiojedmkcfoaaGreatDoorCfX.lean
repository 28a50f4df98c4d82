/- A line, as the reader of settings takes it: plain. -/
import Derived.Test.YtbhiojedmkcfoaaGreatDoorCfU
namespace Go.Proofs.YtbhiojedmkcfoaaGreatDoor
set_option linter.unusedVariables false
set_option linter.unusedSimpArgs false
open Go.RowKit
attribute [local irreducible] HC HX HO Tri eP adr

/-- the interface of a line's words -/
def ifX (a b p d : List UInt8) : IfQ := ⟨numV a, numV b, ((paR p).getD (0, 0)).1, ((paR p).getD (0, 0)).2, numV d⟩
def ifBad (q : CfQ) (bad : Bool) (a b p d : List UInt8) : Bool := bad || (paR p).isNone || decide (0 < q.deny.length) || (numR a).isNone || (numR b).isNone || (numR d).isNone
/-- what the reader has behind a line -/
def lineX (i : Nat) (ws : List (List UInt8)) (q : CfQ) (bad : Bool) : CfQ × Bool := if i < 18 then fixX i ws q bad else match ws with
  | [w, v] => if w = denyW then ({ q with deny := q.deny ++ [numV v] }, bad || (numR v).isNone) else (q, true)
  | [w, a, b, p, d] => if w = ifaceW then ({ q with ifs := q.ifs ++ [ifX a b p d] }, ifBad q bad a b p d) else (q, true)
  | _ => (q, true)
theorem numV_some {v : List UInt8} {n : Nat} (h : numR v = some n) : numV v = n := by unfold numV; rw [h]
theorem fixX_ok (i : Nat) (ws : List (List UInt8)) (q : CfQ) : fixM i ws q = if (fixX i ws q false).2 = true then none else some (fixX i ws q false).1 := by
  unfold fixM fixX
  split
  · rename_i w v
    by_cases hw : wordsL[i]? = some w
    · simp only [hw, if_true]
      by_cases h1 : i = 1
      · simp only [h1, if_true]
        cases adR v <;> rfl
      · simp only [h1, if_false]
        cases hv : numR v with
        | none => rfl
        | some n => rw [numV_some hv]; rfl
    · simp only [hw, if_false, if_true]
  · rename_i h
    split
    · exact absurd rfl (h _ _)
    · rfl
theorem moreX_ok (i : Nat) (hi : ¬ i < 18) (ws : List (List UInt8)) (q : CfQ) : moreM ws q = if (lineX i ws q false).2 = true then none else some (lineX i ws q false).1 := by
  unfold moreM lineX
  rw [if_neg hi]
  split
  · rename_i w v
    by_cases hw : w = denyW
    · simp only [hw, if_true]
      cases hv : numR v with
      | none => rfl
      | some n => rw [numV_some hv]; rfl
    · simp only [hw, if_false, if_true]
  · rename_i w a b p d
    by_cases hw : w = ifaceW
    · simp only [hw, if_true, true_and]
      unfold ifBad ifX
      cases hd : q.deny with
      | nil =>
        cases ha : numR a <;> cases hb : numR b <;> cases hp : paR p <;> cases hn : numR d <;> simp [numV, ha, hb, hn]
      | cons x l => simp
    · simp only [hw, if_false, if_true, false_and]
  · rename_i h1 h2
    split
    · exact absurd rfl (h1 _ _)
    · exact absurd rfl (h2 _ _ _ _ _)
    · rfl
end Go.Proofs.YtbhiojedmkcfoaaGreatDoor
