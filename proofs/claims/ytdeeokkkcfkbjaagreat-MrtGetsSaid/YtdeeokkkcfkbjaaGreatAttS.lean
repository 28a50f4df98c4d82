/- Whether two attributes are the same. -/
import Derived.Test.YtdeeokkkcfkbjaaGreatAttR
namespace Go.Proofs.YtdeeokkkcfkbjaaGreat
set_option linter.unusedVariables false
set_option linter.unusedSimpArgs false
open Go.RowKit
attribute [local irreducible] HC HX HO Tri eP adr

theorem spl_get {l : List SegS} {j : Nat} {s : SegS} (h : l[j]? = some s) : (spl l)[j]? = some (s.set, s.ns) := by
  unfold spl
  rw [List.getElem?_map, h]
  rfl
theorem spl_len (l : List SegS) : (spl l).length = l.length := by simp [spl]
def sameB (p q : PA) : Bool := decide (p.org = q.org) && decide (p.nxt = q.nxt) && decide (p.med = q.med) && decide (p.pref = q.pref) && decide (p.comms = q.comms) && decide (p.path = q.path)
theorem sameB_refl (p : PA) : sameB p p = true := by simp [sameB]
/-- what is asked of attributes' lengths -/
structure Lim (a : AttS) : Prop where
  p : a.path.length ≤ 1000
  c : a.comms.length ≤ 1000
  s : ∀ s ∈ a.path, s.ns.length ≤ 1000
end Go.Proofs.YtdeeokkkcfkbjaaGreat
