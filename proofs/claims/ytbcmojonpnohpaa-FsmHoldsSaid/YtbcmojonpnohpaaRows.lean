/-
  No cell of these rows narrows 'for every input' (looked for: loops, veiled, ifaces, maps, wideKeys, modest, calm, conditions, laid).
  DERIVED. THE GIVEN ROWS OF THIS SEAT. 3 by the template 'for every input the law returns true; each argument reads behind the call as it read before'; 0 by the template 'total and deterministic' (their statements: YtbcmojonpnohpaaTotals.lean).
  GIVEN WITH THE SEED: the statements are not yours to turn. If you find one false, say at which input.
  Laid BY PROGRAM, IN A SANDBOX (cutbox-rows.mjs): the forced cells as the released guide's own fill.sh prints them over the translation b39c2b93ab22745e… (all of the seat's roots in one cut). By AI agents, Wed Nov 11 2026. No macro, syntax, notation, axiom, sorry.
-/
import Derived.Test.YtbcmojonpnohpaaChecked
import GoSem.Claim
import GoSem.ClaimJoined
import GoSem.ClaimMapViews
import Derived.JoinedTies
import Derived.KernelRfl
namespace Go.Proofs.Ytbcmojonpnohpaa
/- THE CELL 'sum', in the pinned program and in every row, IS THE sha256 OF THE DUMP (.gsa) THAT YtbcmojonpnohpaaProg.lean LOADS. Nothing in Lean hashes anything: it is a label: what it is worth is what the hold of that sum in a sandbox is worth. -/
noncomputable def Try.pinned : Pinned := { name := "ytbcmojonpnohpaa", sum := "b39c2b93ab22745e4fdd213e7dc9665e8459acd45a732fda6302957b7c0fff35", checked := Try.checked }
namespace Rows
def none {H : Type} : Left H := { results := [], args := [] }

/-- 'bypathlaw11.FsmUps': WHATEVER THE INPUT: true; the input reads as it did. -/
def fsmUpsSpec : ChangeSpec := { name := "fsmUps", fn := fun _ => fun
  | [d1, d2] => { results := [.lit (.bool true)], args := [d1, d2] }
  | _ => none }
def fsmUpsRow : OpenClaim := { program := "ytbcmojonpnohpaa", sum := "b39c2b93ab22745e4fdd213e7dc9665e8459acd45a732fda6302957b7c0fff35", func := "bypath/bypathlaw11.FsmUps", spec := "fsmUps", unfollowed := true, recurses := true, apart := false }
def FsmUpsSaid : Prop := fsmUpsRow.holds Try.pinned (OpenSpec.ofChange fsmUpsSpec)

/-- ITS FALSE NEIGHBOUR: 'it returns false'. Refute it at one input. -/
def fsmUpsWrong : ChangeSpec := { name := "fsmUps", fn := fun _ => fun
  | [d1, d2] => { results := [.lit (.bool false)], args := [d1, d2] }
  | _ => none }
def FsmUpsWrongFalsely : Prop := fsmUpsRow.holds Try.pinned (OpenSpec.ofChange fsmUpsWrong)

/-- 'bypathlaw11.FsmHolds': WHATEVER THE INPUT: true; the input reads as it did. -/
def fsmHoldsSpec : ChangeSpec := { name := "fsmHolds", fn := fun _ => fun
  | [d1, d2] => { results := [.lit (.bool true)], args := [d1, d2] }
  | _ => none }
def fsmHoldsRow : OpenClaim := { program := "ytbcmojonpnohpaa", sum := "b39c2b93ab22745e4fdd213e7dc9665e8459acd45a732fda6302957b7c0fff35", func := "bypath/bypathlaw11.FsmHolds", spec := "fsmHolds", unfollowed := true, recurses := true, apart := false }
def FsmHoldsSaid : Prop := fsmHoldsRow.holds Try.pinned (OpenSpec.ofChange fsmHoldsSpec)

/-- ITS FALSE NEIGHBOUR: 'it returns false'. Refute it at one input. -/
def fsmHoldsWrong : ChangeSpec := { name := "fsmHolds", fn := fun _ => fun
  | [d1, d2] => { results := [.lit (.bool false)], args := [d1, d2] }
  | _ => none }
def FsmHoldsWrongFalsely : Prop := fsmHoldsRow.holds Try.pinned (OpenSpec.ofChange fsmHoldsWrong)

/-- 'bypathlaw11.FsmBad': WHATEVER THE INPUT: true; the input reads as it did. -/
def fsmBadSpec : ChangeSpec := { name := "fsmBad", fn := fun _ => fun
  | [d1, d2, d3, d4] => { results := [.lit (.bool true)], args := [d1, d2, d3, d4] }
  | _ => none }
def fsmBadRow : OpenClaim := { program := "ytbcmojonpnohpaa", sum := "b39c2b93ab22745e4fdd213e7dc9665e8459acd45a732fda6302957b7c0fff35", func := "bypath/bypathlaw11.FsmBad", spec := "fsmBad", unfollowed := true, recurses := true, apart := false }
def FsmBadSaid : Prop := fsmBadRow.holds Try.pinned (OpenSpec.ofChange fsmBadSpec)

/-- ITS FALSE NEIGHBOUR: 'it returns false'. Refute it at one input. -/
def fsmBadWrong : ChangeSpec := { name := "fsmBad", fn := fun _ => fun
  | [d1, d2, d3, d4] => { results := [.lit (.bool false)], args := [d1, d2, d3, d4] }
  | _ => none }
def FsmBadWrongFalsely : Prop := fsmBadRow.holds Try.pinned (OpenSpec.ofChange fsmBadWrong)

/- THE SECOND FORM. 'bulk': how many values and letters a reading holds, each counted each time it is reached (what is shared counts as often as it is met; a slice's spare places count too). A statement '..UptoSaid' is the law's where the arguments, and the package variables that the reading takes, are together of bulk at most 1048576: NARROWER than '..Said'. Prove '..Said' where nothing that the law and all that it calls make is longer than what came in: it says more and counts as full. Else prove '..UptoSaid'. A law counts once. -/
mutual
def uptoBulk {H : Type} : DataW H → Nat
  | .lit (.string bytes) => bytes.length + 1
  | .lit _ => 1
  | .nil => 1
  | .ptr d => uptoBulk d + 1
  | .slice elems spare => uptoBulkAll elems + uptoBulkAll spare + 1
  | .agg parts => uptoBulkAll parts + 1
  | .iface _ d => uptoBulk d + 1
  | .map entries => uptoBulkEntries entries + 1
  | .held _ => 1
def uptoBulkAll {H : Type} : List (DataW H) → Nat
  | [] => 0
  | d :: r => uptoBulk d + uptoBulkAll r
def uptoBulkEntries {H : Type} : List (Lit × DataW H) → Nat
  | [] => 0
  | x :: r => uptoBulkEntry x + uptoBulkEntries r
def uptoBulkEntry {H : Type} : Lit × DataW H → Nat
  | (.string bytes, d) => bytes.length + uptoBulk d + 1
  | (_, d) => uptoBulk d + 1
 end
def uptoSmall : (H : Type) → List (DataW H) → Bool := fun _ ds => decide (uptoBulkAll ds ≤ 1048576)
def OpenSpec.upto (s : _root_.Go.ChangeSpec) : _root_.Go.OpenSpec := { _root_.Go.OpenSpec.ofChange s with cond := some uptoSmall }

/-- 'bypathlaw11.FsmUps', WHERE WHAT IT READS IS OF BULK AT MOST 1048576: true; the input reads as it did. -/
def fsmUpsUptoRow : OpenClaim := { program := "ytbcmojonpnohpaa", sum := "b39c2b93ab22745e4fdd213e7dc9665e8459acd45a732fda6302957b7c0fff35", func := "bypath/bypathlaw11.FsmUps", spec := "fsmUps", unfollowed := true, recurses := true, apart := false, narrowed := true }
def FsmUpsUptoSaid : Prop := fsmUpsUptoRow.holds Try.pinned (OpenSpec.upto fsmUpsSpec)

/-- 'bypathlaw11.FsmHolds', WHERE WHAT IT READS IS OF BULK AT MOST 1048576: true; the input reads as it did. -/
def fsmHoldsUptoRow : OpenClaim := { program := "ytbcmojonpnohpaa", sum := "b39c2b93ab22745e4fdd213e7dc9665e8459acd45a732fda6302957b7c0fff35", func := "bypath/bypathlaw11.FsmHolds", spec := "fsmHolds", unfollowed := true, recurses := true, apart := false, narrowed := true }
def FsmHoldsUptoSaid : Prop := fsmHoldsUptoRow.holds Try.pinned (OpenSpec.upto fsmHoldsSpec)

/-- 'bypathlaw11.FsmBad', WHERE WHAT IT READS IS OF BULK AT MOST 1048576: true; the input reads as it did. -/
def fsmBadUptoRow : OpenClaim := { program := "ytbcmojonpnohpaa", sum := "b39c2b93ab22745e4fdd213e7dc9665e8459acd45a732fda6302957b7c0fff35", func := "bypath/bypathlaw11.FsmBad", spec := "fsmBad", unfollowed := true, recurses := true, apart := false, narrowed := true }
def FsmBadUptoSaid : Prop := fsmBadUptoRow.holds Try.pinned (OpenSpec.upto fsmBadSpec)

end Rows
end Go.Proofs.Ytbcmojonpnohpaa
