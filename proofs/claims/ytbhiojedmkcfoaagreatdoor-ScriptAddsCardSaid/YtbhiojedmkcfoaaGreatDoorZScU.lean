/- Part of a proof of many texts: what the theorem at its end leans on. -/
import Derived.Test.YtbhiojedmkcfoaaGreatDoorZScE
namespace Go.Proofs.YtbhiojedmkcfoaaGreatDoor
set_option linter.unusedVariables false
set_option linter.unusedSimpArgs false
open Go.RowKit
attribute [local irreducible] HC HX HO Tri eP adr
def mkDo (q : DoQ) (z : OA × OA × OA) : DoS := ⟨q, z.1.1, z.1.2, z.2.1.1, z.2.1.2, z.2.2.1, z.2.2.2⟩
end Go.Proofs.YtbhiojedmkcfoaaGreatDoor
