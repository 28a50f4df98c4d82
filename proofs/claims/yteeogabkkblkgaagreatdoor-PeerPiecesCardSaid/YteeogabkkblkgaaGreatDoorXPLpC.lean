/- Part of a proof of many texts: what the theorem at its end leans on. -/
import Derived.Test.YteeogabkkblkgaaGreatDoorXPLpA
namespace Go.Proofs.YteeogabkkblkgaaGreatDoor
set_option maxHeartbeats 1000000000
set_option linter.unusedVariables false
set_option linter.unusedSimpArgs false
open Go.RowKit
attribute [local irreducible] HC HX HO Tri eP adr
def zz : RsZ := ⟨[], (none, 0), (none, 0)⟩
theorem zz_ok : RsOk (rs0 : RsQ UpP) zz := ⟨rfl, fun u hu => (by cases hu)⟩
end Go.Proofs.YteeogabkkblkgaaGreatDoor
