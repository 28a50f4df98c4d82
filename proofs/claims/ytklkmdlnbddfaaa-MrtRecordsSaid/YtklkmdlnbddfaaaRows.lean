/-
  No cell of these rows narrows 'for every input' (looked for: loops, veiled, ifaces, maps, wideKeys, modest, calm, conditions, laid).
  DERIVED. THE GIVEN ROWS OF THIS SEAT. 10 by the template 'for every input the law returns true; each argument reads behind the call as it read before'; 0 by the template 'total and deterministic' (their statements: YtklkmdlnbddfaaaTotals.lean).
  GIVEN WITH THE SEED: the statements are not yours to turn. If you find one false, say at which input.
  Laid BY PROGRAM, IN A SANDBOX (cutbox-rows.mjs): the forced cells as the released guide's own fill.sh prints them over the translation fd1d5593e8bed0bf… (all of the seat's roots in one cut). By AI agents, Wed Nov 11 2026. No macro, syntax, notation, axiom, sorry.
-/
import Derived.Test.YtklkmdlnbddfaaaChecked
import GoSem.Claim
import GoSem.ClaimJoined
import GoSem.ClaimMapViews
import Derived.JoinedTies
import Derived.KernelRfl
namespace Go.Proofs.Ytklkmdlnbddfaaa
/- THE CELL 'sum', in the pinned program and in every row, IS THE sha256 OF THE DUMP (.gsa) THAT YtklkmdlnbddfaaaProg.lean LOADS. Nothing in Lean hashes anything: it is a label: what it is worth is what the hold of that sum in a sandbox is worth. -/
noncomputable def Try.pinned : Pinned := { name := "ytklkmdlnbddfaaa", sum := "fd1d5593e8bed0bf9a14e40c42a358333635582f86538a7a857091f6d4e2696c", checked := Try.checked }
namespace Rows
def none {H : Type} : Left H := { results := [], args := [] }

/-- 'bypathlaw05.AttrPuts': WHATEVER THE INPUT: true; the input reads as it did. -/
def attrPutsSpec : ChangeSpec := { name := "attrPuts", fn := fun _ => fun
  | [d1, d2] => { results := [.lit (.bool true)], args := [d1, d2] }
  | _ => none }
def attrPutsRow : OpenClaim := { program := "ytklkmdlnbddfaaa", sum := "fd1d5593e8bed0bf9a14e40c42a358333635582f86538a7a857091f6d4e2696c", func := "bypath/bypathlaw05.AttrPuts", spec := "attrPuts", unfollowed := true, recurses := true, apart := false }
def AttrPutsSaid : Prop := attrPutsRow.holds Try.pinned (OpenSpec.ofChange attrPutsSpec)

/-- ITS FALSE NEIGHBOUR: 'it returns false'. Refute it at one input. -/
def attrPutsWrong : ChangeSpec := { name := "attrPuts", fn := fun _ => fun
  | [d1, d2] => { results := [.lit (.bool false)], args := [d1, d2] }
  | _ => none }
def AttrPutsWrongFalsely : Prop := attrPutsRow.holds Try.pinned (OpenSpec.ofChange attrPutsWrong)

/-- 'bypathlaw05.AttrGets': WHATEVER THE INPUT: true; the input reads as it did. -/
def attrGetsSpec : ChangeSpec := { name := "attrGets", fn := fun _ => fun
  | [d1, d2] => { results := [.lit (.bool true)], args := [d1, d2] }
  | _ => none }
def attrGetsRow : OpenClaim := { program := "ytklkmdlnbddfaaa", sum := "fd1d5593e8bed0bf9a14e40c42a358333635582f86538a7a857091f6d4e2696c", func := "bypath/bypathlaw05.AttrGets", spec := "attrGets", unfollowed := true, recurses := true, apart := false }
def AttrGetsSaid : Prop := attrGetsRow.holds Try.pinned (OpenSpec.ofChange attrGetsSpec)

/-- ITS FALSE NEIGHBOUR: 'it returns false'. Refute it at one input. -/
def attrGetsWrong : ChangeSpec := { name := "attrGets", fn := fun _ => fun
  | [d1, d2] => { results := [.lit (.bool false)], args := [d1, d2] }
  | _ => none }
def AttrGetsWrongFalsely : Prop := attrGetsRow.holds Try.pinned (OpenSpec.ofChange attrGetsWrong)

/-- 'bypathlaw05.AttrLooks': WHATEVER THE INPUT: true; the input reads as it did. -/
def attrLooksSpec : ChangeSpec := { name := "attrLooks", fn := fun _ => fun
  | [d1, d2, d3] => { results := [.lit (.bool true)], args := [d1, d2, d3] }
  | _ => none }
def attrLooksRow : OpenClaim := { program := "ytklkmdlnbddfaaa", sum := "fd1d5593e8bed0bf9a14e40c42a358333635582f86538a7a857091f6d4e2696c", func := "bypath/bypathlaw05.AttrLooks", spec := "attrLooks", unfollowed := true, recurses := true, apart := false }
def AttrLooksSaid : Prop := attrLooksRow.holds Try.pinned (OpenSpec.ofChange attrLooksSpec)

/-- ITS FALSE NEIGHBOUR: 'it returns false'. Refute it at one input. -/
def attrLooksWrong : ChangeSpec := { name := "attrLooks", fn := fun _ => fun
  | [d1, d2, d3] => { results := [.lit (.bool false)], args := [d1, d2, d3] }
  | _ => none }
def AttrLooksWrongFalsely : Prop := attrLooksRow.holds Try.pinned (OpenSpec.ofChange attrLooksWrong)

/-- 'bypathlaw05.AttrTwice': WHATEVER THE INPUT: true; the input reads as it did. -/
def attrTwiceSpec : ChangeSpec := { name := "attrTwice", fn := fun _ => fun
  | [d1, d2, d3, d4, d5] => { results := [.lit (.bool true)], args := [d1, d2, d3, d4, d5] }
  | _ => none }
def attrTwiceRow : OpenClaim := { program := "ytklkmdlnbddfaaa", sum := "fd1d5593e8bed0bf9a14e40c42a358333635582f86538a7a857091f6d4e2696c", func := "bypath/bypathlaw05.AttrTwice", spec := "attrTwice", unfollowed := true, recurses := true, apart := false }
def AttrTwiceSaid : Prop := attrTwiceRow.holds Try.pinned (OpenSpec.ofChange attrTwiceSpec)

/-- ITS FALSE NEIGHBOUR: 'it returns false'. Refute it at one input. -/
def attrTwiceWrong : ChangeSpec := { name := "attrTwice", fn := fun _ => fun
  | [d1, d2, d3, d4, d5] => { results := [.lit (.bool false)], args := [d1, d2, d3, d4, d5] }
  | _ => none }
def AttrTwiceWrongFalsely : Prop := attrTwiceRow.holds Try.pinned (OpenSpec.ofChange attrTwiceWrong)

/-- 'bypathlaw05.AttrLess': WHATEVER THE INPUT: true; the input reads as it did. -/
def attrLessSpec : ChangeSpec := { name := "attrLess", fn := fun _ => fun
  | [d1, d2] => { results := [.lit (.bool true)], args := [d1, d2] }
  | _ => none }
def attrLessRow : OpenClaim := { program := "ytklkmdlnbddfaaa", sum := "fd1d5593e8bed0bf9a14e40c42a358333635582f86538a7a857091f6d4e2696c", func := "bypath/bypathlaw05.AttrLess", spec := "attrLess", unfollowed := true, recurses := true, apart := false }
def AttrLessSaid : Prop := attrLessRow.holds Try.pinned (OpenSpec.ofChange attrLessSpec)

/-- ITS FALSE NEIGHBOUR: 'it returns false'. Refute it at one input. -/
def attrLessWrong : ChangeSpec := { name := "attrLess", fn := fun _ => fun
  | [d1, d2] => { results := [.lit (.bool false)], args := [d1, d2] }
  | _ => none }
def AttrLessWrongFalsely : Prop := attrLessRow.holds Try.pinned (OpenSpec.ofChange attrLessWrong)

/-- 'bypathlaw07.UpdatePuts': WHATEVER THE INPUT: true; the input reads as it did. -/
def updatePutsSpec : ChangeSpec := { name := "updatePuts", fn := fun _ => fun
  | [d1, d2, d3] => { results := [.lit (.bool true)], args := [d1, d2, d3] }
  | _ => none }
def updatePutsRow : OpenClaim := { program := "ytklkmdlnbddfaaa", sum := "fd1d5593e8bed0bf9a14e40c42a358333635582f86538a7a857091f6d4e2696c", func := "bypath/bypathlaw07.UpdatePuts", spec := "updatePuts", unfollowed := true, recurses := true, apart := false }
def UpdatePutsSaid : Prop := updatePutsRow.holds Try.pinned (OpenSpec.ofChange updatePutsSpec)

/-- ITS FALSE NEIGHBOUR: 'it returns false'. Refute it at one input. -/
def updatePutsWrong : ChangeSpec := { name := "updatePuts", fn := fun _ => fun
  | [d1, d2, d3] => { results := [.lit (.bool false)], args := [d1, d2, d3] }
  | _ => none }
def UpdatePutsWrongFalsely : Prop := updatePutsRow.holds Try.pinned (OpenSpec.ofChange updatePutsWrong)

/-- 'bypathlaw07.UpdateSofts': WHATEVER THE INPUT: true; the input reads as it did. -/
def updateSoftsSpec : ChangeSpec := { name := "updateSofts", fn := fun _ => fun
  | [d1, d2, d3, d4, d5] => { results := [.lit (.bool true)], args := [d1, d2, d3, d4, d5] }
  | _ => none }
def updateSoftsRow : OpenClaim := { program := "ytklkmdlnbddfaaa", sum := "fd1d5593e8bed0bf9a14e40c42a358333635582f86538a7a857091f6d4e2696c", func := "bypath/bypathlaw07.UpdateSofts", spec := "updateSofts", unfollowed := true, recurses := true, apart := false }
def UpdateSoftsSaid : Prop := updateSoftsRow.holds Try.pinned (OpenSpec.ofChange updateSoftsSpec)

/-- ITS FALSE NEIGHBOUR: 'it returns false'. Refute it at one input. -/
def updateSoftsWrong : ChangeSpec := { name := "updateSofts", fn := fun _ => fun
  | [d1, d2, d3, d4, d5] => { results := [.lit (.bool false)], args := [d1, d2, d3, d4, d5] }
  | _ => none }
def UpdateSoftsWrongFalsely : Prop := updateSoftsRow.holds Try.pinned (OpenSpec.ofChange updateSoftsWrong)

/-- 'bypathlaw07.UpdateMany': WHATEVER THE INPUT: true; the input reads as it did. -/
def updateManySpec : ChangeSpec := { name := "updateMany", fn := fun _ => fun
  | [d1, d2, d3, d4, d5] => { results := [.lit (.bool true)], args := [d1, d2, d3, d4, d5] }
  | _ => none }
def updateManyRow : OpenClaim := { program := "ytklkmdlnbddfaaa", sum := "fd1d5593e8bed0bf9a14e40c42a358333635582f86538a7a857091f6d4e2696c", func := "bypath/bypathlaw07.UpdateMany", spec := "updateMany", unfollowed := true, recurses := true, apart := false }
def UpdateManySaid : Prop := updateManyRow.holds Try.pinned (OpenSpec.ofChange updateManySpec)

/-- ITS FALSE NEIGHBOUR: 'it returns false'. Refute it at one input. -/
def updateManyWrong : ChangeSpec := { name := "updateMany", fn := fun _ => fun
  | [d1, d2, d3, d4, d5] => { results := [.lit (.bool false)], args := [d1, d2, d3, d4, d5] }
  | _ => none }
def UpdateManyWrongFalsely : Prop := updateManyRow.holds Try.pinned (OpenSpec.ofChange updateManyWrong)

/-- 'bypathlaw07.UpdateShort': WHATEVER THE INPUT: true; the input reads as it did. -/
def updateShortSpec : ChangeSpec := { name := "updateShort", fn := fun _ => fun
  | [d1, d2, d3, d4] => { results := [.lit (.bool true)], args := [d1, d2, d3, d4] }
  | _ => none }
def updateShortRow : OpenClaim := { program := "ytklkmdlnbddfaaa", sum := "fd1d5593e8bed0bf9a14e40c42a358333635582f86538a7a857091f6d4e2696c", func := "bypath/bypathlaw07.UpdateShort", spec := "updateShort", unfollowed := true, recurses := true, apart := false }
def UpdateShortSaid : Prop := updateShortRow.holds Try.pinned (OpenSpec.ofChange updateShortSpec)

/-- ITS FALSE NEIGHBOUR: 'it returns false'. Refute it at one input. -/
def updateShortWrong : ChangeSpec := { name := "updateShort", fn := fun _ => fun
  | [d1, d2, d3, d4] => { results := [.lit (.bool false)], args := [d1, d2, d3, d4] }
  | _ => none }
def UpdateShortWrongFalsely : Prop := updateShortRow.holds Try.pinned (OpenSpec.ofChange updateShortWrong)

/-- 'bypathlaw35.MrtRecords': WHATEVER THE INPUT: true; the input reads as it did. -/
def mrtRecordsSpec : ChangeSpec := { name := "mrtRecords", fn := fun _ => fun
  | [d1, d2] => { results := [.lit (.bool true)], args := [d1, d2] }
  | _ => none }
def mrtRecordsRow : OpenClaim := { program := "ytklkmdlnbddfaaa", sum := "fd1d5593e8bed0bf9a14e40c42a358333635582f86538a7a857091f6d4e2696c", func := "bypath/bypathlaw35.MrtRecords", spec := "mrtRecords", unfollowed := true, recurses := true, apart := false }
def MrtRecordsSaid : Prop := mrtRecordsRow.holds Try.pinned (OpenSpec.ofChange mrtRecordsSpec)

/-- ITS FALSE NEIGHBOUR: 'it returns false'. Refute it at one input. -/
def mrtRecordsWrong : ChangeSpec := { name := "mrtRecords", fn := fun _ => fun
  | [d1, d2] => { results := [.lit (.bool false)], args := [d1, d2] }
  | _ => none }
def MrtRecordsWrongFalsely : Prop := mrtRecordsRow.holds Try.pinned (OpenSpec.ofChange mrtRecordsWrong)

/- THE SECOND FORM. 'bulk': how many values and letters a reading holds, each counted each time it is reached (what is shared counts as often as it is met; a slice's spare places count too). A statement '..UptoSaid' is the law's where the arguments, and the package variables that the reading takes, are together of bulk at most 1048576: NARROWER than '..Said'. Prove '..Said' where nothing that the law and all that it calls make is longer than what came in: it says more and counts as full. Else prove '..UptoSaid'. A law counts once. -/
mutual
def uptoBulk {H : Type} : DataW H → Nat
  | .lit (.string bytes) => bytes.length + 1
  | .lit _ => 1
  | .nil => 1
  | .ptr d => uptoBulk d + 1
  | .slice elems spare => uptoBulkAll elems + uptoBulkAll spare + 1
  | .agg parts => uptoBulkAll parts + 1
  | .iface _ d => uptoBulk d + 1
  | .map entries => uptoBulkEntries entries + 1
  | .held _ => 1
def uptoBulkAll {H : Type} : List (DataW H) → Nat
  | [] => 0
  | d :: r => uptoBulk d + uptoBulkAll r
def uptoBulkEntries {H : Type} : List (Lit × DataW H) → Nat
  | [] => 0
  | x :: r => uptoBulkEntry x + uptoBulkEntries r
def uptoBulkEntry {H : Type} : Lit × DataW H → Nat
  | (.string bytes, d) => bytes.length + uptoBulk d + 1
  | (_, d) => uptoBulk d + 1
 end
def uptoSmall : (H : Type) → List (DataW H) → Bool := fun _ ds => decide (uptoBulkAll ds ≤ 1048576)
def OpenSpec.upto (s : _root_.Go.ChangeSpec) : _root_.Go.OpenSpec := { _root_.Go.OpenSpec.ofChange s with cond := some uptoSmall }

/-- 'bypathlaw05.AttrPuts', WHERE WHAT IT READS IS OF BULK AT MOST 1048576: true; the input reads as it did. -/
def attrPutsUptoRow : OpenClaim := { program := "ytklkmdlnbddfaaa", sum := "fd1d5593e8bed0bf9a14e40c42a358333635582f86538a7a857091f6d4e2696c", func := "bypath/bypathlaw05.AttrPuts", spec := "attrPuts", unfollowed := true, recurses := true, apart := false, narrowed := true }
def AttrPutsUptoSaid : Prop := attrPutsUptoRow.holds Try.pinned (OpenSpec.upto attrPutsSpec)

/-- 'bypathlaw05.AttrGets', WHERE WHAT IT READS IS OF BULK AT MOST 1048576: true; the input reads as it did. -/
def attrGetsUptoRow : OpenClaim := { program := "ytklkmdlnbddfaaa", sum := "fd1d5593e8bed0bf9a14e40c42a358333635582f86538a7a857091f6d4e2696c", func := "bypath/bypathlaw05.AttrGets", spec := "attrGets", unfollowed := true, recurses := true, apart := false, narrowed := true }
def AttrGetsUptoSaid : Prop := attrGetsUptoRow.holds Try.pinned (OpenSpec.upto attrGetsSpec)

/-- 'bypathlaw05.AttrLooks', WHERE WHAT IT READS IS OF BULK AT MOST 1048576: true; the input reads as it did. -/
def attrLooksUptoRow : OpenClaim := { program := "ytklkmdlnbddfaaa", sum := "fd1d5593e8bed0bf9a14e40c42a358333635582f86538a7a857091f6d4e2696c", func := "bypath/bypathlaw05.AttrLooks", spec := "attrLooks", unfollowed := true, recurses := true, apart := false, narrowed := true }
def AttrLooksUptoSaid : Prop := attrLooksUptoRow.holds Try.pinned (OpenSpec.upto attrLooksSpec)

/-- 'bypathlaw05.AttrTwice', WHERE WHAT IT READS IS OF BULK AT MOST 1048576: true; the input reads as it did. -/
def attrTwiceUptoRow : OpenClaim := { program := "ytklkmdlnbddfaaa", sum := "fd1d5593e8bed0bf9a14e40c42a358333635582f86538a7a857091f6d4e2696c", func := "bypath/bypathlaw05.AttrTwice", spec := "attrTwice", unfollowed := true, recurses := true, apart := false, narrowed := true }
def AttrTwiceUptoSaid : Prop := attrTwiceUptoRow.holds Try.pinned (OpenSpec.upto attrTwiceSpec)

/-- 'bypathlaw05.AttrLess', WHERE WHAT IT READS IS OF BULK AT MOST 1048576: true; the input reads as it did. -/
def attrLessUptoRow : OpenClaim := { program := "ytklkmdlnbddfaaa", sum := "fd1d5593e8bed0bf9a14e40c42a358333635582f86538a7a857091f6d4e2696c", func := "bypath/bypathlaw05.AttrLess", spec := "attrLess", unfollowed := true, recurses := true, apart := false, narrowed := true }
def AttrLessUptoSaid : Prop := attrLessUptoRow.holds Try.pinned (OpenSpec.upto attrLessSpec)

/-- 'bypathlaw07.UpdatePuts', WHERE WHAT IT READS IS OF BULK AT MOST 1048576: true; the input reads as it did. -/
def updatePutsUptoRow : OpenClaim := { program := "ytklkmdlnbddfaaa", sum := "fd1d5593e8bed0bf9a14e40c42a358333635582f86538a7a857091f6d4e2696c", func := "bypath/bypathlaw07.UpdatePuts", spec := "updatePuts", unfollowed := true, recurses := true, apart := false, narrowed := true }
def UpdatePutsUptoSaid : Prop := updatePutsUptoRow.holds Try.pinned (OpenSpec.upto updatePutsSpec)

/-- 'bypathlaw07.UpdateSofts', WHERE WHAT IT READS IS OF BULK AT MOST 1048576: true; the input reads as it did. -/
def updateSoftsUptoRow : OpenClaim := { program := "ytklkmdlnbddfaaa", sum := "fd1d5593e8bed0bf9a14e40c42a358333635582f86538a7a857091f6d4e2696c", func := "bypath/bypathlaw07.UpdateSofts", spec := "updateSofts", unfollowed := true, recurses := true, apart := false, narrowed := true }
def UpdateSoftsUptoSaid : Prop := updateSoftsUptoRow.holds Try.pinned (OpenSpec.upto updateSoftsSpec)

/-- 'bypathlaw07.UpdateMany', WHERE WHAT IT READS IS OF BULK AT MOST 1048576: true; the input reads as it did. -/
def updateManyUptoRow : OpenClaim := { program := "ytklkmdlnbddfaaa", sum := "fd1d5593e8bed0bf9a14e40c42a358333635582f86538a7a857091f6d4e2696c", func := "bypath/bypathlaw07.UpdateMany", spec := "updateMany", unfollowed := true, recurses := true, apart := false, narrowed := true }
def UpdateManyUptoSaid : Prop := updateManyUptoRow.holds Try.pinned (OpenSpec.upto updateManySpec)

/-- 'bypathlaw07.UpdateShort', WHERE WHAT IT READS IS OF BULK AT MOST 1048576: true; the input reads as it did. -/
def updateShortUptoRow : OpenClaim := { program := "ytklkmdlnbddfaaa", sum := "fd1d5593e8bed0bf9a14e40c42a358333635582f86538a7a857091f6d4e2696c", func := "bypath/bypathlaw07.UpdateShort", spec := "updateShort", unfollowed := true, recurses := true, apart := false, narrowed := true }
def UpdateShortUptoSaid : Prop := updateShortUptoRow.holds Try.pinned (OpenSpec.upto updateShortSpec)

/-- 'bypathlaw35.MrtRecords', WHERE WHAT IT READS IS OF BULK AT MOST 1048576: true; the input reads as it did. -/
def mrtRecordsUptoRow : OpenClaim := { program := "ytklkmdlnbddfaaa", sum := "fd1d5593e8bed0bf9a14e40c42a358333635582f86538a7a857091f6d4e2696c", func := "bypath/bypathlaw35.MrtRecords", spec := "mrtRecords", unfollowed := true, recurses := true, apart := false, narrowed := true }
def MrtRecordsUptoSaid : Prop := mrtRecordsUptoRow.holds Try.pinned (OpenSpec.upto mrtRecordsSpec)

end Rows
end Go.Proofs.Ytklkmdlnbddfaaa
