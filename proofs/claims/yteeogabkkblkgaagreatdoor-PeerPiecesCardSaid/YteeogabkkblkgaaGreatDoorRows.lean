/-
  NARROWER THAN 'FOR EVERY INPUT', by the rows' own cells (each row's printed sentence says how): PeerPieces: laid · PeerSends: laid · PeerNobody: laid · PeerFalls: laid · PeerDoes: laid.
  DERIVED. THE GIVEN ROWS OF THIS SEAT. 5 by the template 'for every input the law returns true; each argument reads behind the call as it read before'; 0 by the template 'total and deterministic' (their statements: YteeogabkkblkgaaGreatDoorTotals.lean).
  GIVEN WITH THE SEED: the statements are not yours to turn. If you find one false, say at which input.
  Laid BY PROGRAM, IN A SANDBOX (cutbox-rows.mjs): the forced cells as the released guide's own fill.sh prints them over the translation a90a20bb4d8acf78… (all of the seat's roots in one cut). By AI agents, Wed Nov 11 2026. No macro, syntax, notation, axiom, sorry.
-/
import Derived.Test.YteeogabkkblkgaaGreatDoorChecked
import GoSem.Claim
import GoSem.ClaimJoined
import GoSem.ClaimMapViews
import Derived.JoinedTies
import Derived.KernelRfl
namespace Go.Proofs.YteeogabkkblkgaaGreatDoor
/- THE CELL 'sum', in the pinned program and in every row, IS THE sha256 OF THE DUMP (.gsa) THAT YteeogabkkblkgaaGreatDoorProg.lean LOADS. Nothing in Lean hashes anything: it is a label: what it is worth is what the hold of that sum in a sandbox is worth. -/
noncomputable def Tryz.pinned : Pinned := { name := "yteeogabkkblkgaagreatdoor", sum := "a90a20bb4d8acf787dae26760115e59ff98ed7557d28222ee6858d4f99f3ff71", checked := Tryz.checked }
namespace Rows
def none {H : Type} : Left H := { results := [], args := [] }

/- WHAT THE LISTED PACKAGE-LEVEL VARIABLES READ AS WHEN THE CALL BEGINS. Each datum BY PROGRAM (the guide's laid-datum.mjs) off the statement by which the dump's own 'gosem.cut.vars' lays the variable. In a bare row this is a premise. The card (YteeogabkkblkgaaGreatDoorCards.lean) ties it to the program's text. -/
def laid_bypath_frame_least {H : Type} : DataW H := .agg [.lit (.int .i64 0), .lit (.int .i64 29), .lit (.int .i64 23), .lit (.int .i64 21), .lit (.int .i64 19)]

/-- 'bypathlaw12.PeerPieces': WHATEVER THE INPUT: true; the input reads as it did. -/
def peerPiecesSpec : ChangeSpec := { name := "peerPieces", fn := fun _ => fun
  | [d1, d2] => { results := [.lit (.bool true)], args := [d1, d2] }
  | _ => none }
def peerPiecesRow : OpenClaim := { program := "yteeogabkkblkgaagreatdoor", sum := "a90a20bb4d8acf787dae26760115e59ff98ed7557d28222ee6858d4f99f3ff71", func := "bypath/bypathlaw12.PeerPieces", spec := "peerPieces", unfollowed := true, recurses := true, named := ["bypath/frame.least"], plainKeys := false, apart := false, laid := [("bypath/frame.least", laid_bypath_frame_least)] }
def PeerPiecesSaid : Prop := peerPiecesRow.holds Tryz.pinned (OpenSpec.ofChange peerPiecesSpec)

/-- ITS FALSE NEIGHBOUR: 'it returns false'. Refute it at one input. -/
def peerPiecesWrong : ChangeSpec := { name := "peerPieces", fn := fun _ => fun
  | [d1, d2] => { results := [.lit (.bool false)], args := [d1, d2] }
  | _ => none }
def PeerPiecesWrongFalsely : Prop := peerPiecesRow.holds Tryz.pinned (OpenSpec.ofChange peerPiecesWrong)

/-- 'bypathlaw12.PeerSends': WHATEVER THE INPUT: true; the input reads as it did. -/
def peerSendsSpec : ChangeSpec := { name := "peerSends", fn := fun _ => fun
  | [d1, d2] => { results := [.lit (.bool true)], args := [d1, d2] }
  | _ => none }
def peerSendsRow : OpenClaim := { program := "yteeogabkkblkgaagreatdoor", sum := "a90a20bb4d8acf787dae26760115e59ff98ed7557d28222ee6858d4f99f3ff71", func := "bypath/bypathlaw12.PeerSends", spec := "peerSends", unfollowed := true, recurses := true, named := ["bypath/frame.least"], plainKeys := false, apart := false, laid := [("bypath/frame.least", laid_bypath_frame_least)] }
def PeerSendsSaid : Prop := peerSendsRow.holds Tryz.pinned (OpenSpec.ofChange peerSendsSpec)

/-- ITS FALSE NEIGHBOUR: 'it returns false'. Refute it at one input. -/
def peerSendsWrong : ChangeSpec := { name := "peerSends", fn := fun _ => fun
  | [d1, d2] => { results := [.lit (.bool false)], args := [d1, d2] }
  | _ => none }
def PeerSendsWrongFalsely : Prop := peerSendsRow.holds Tryz.pinned (OpenSpec.ofChange peerSendsWrong)

/-- 'bypathlaw12.PeerNobody': WHATEVER THE INPUT: true; the input reads as it did. -/
def peerNobodySpec : ChangeSpec := { name := "peerNobody", fn := fun _ => fun
  | [d] => { results := [.lit (.bool true)], args := [d] }
  | _ => none }
def peerNobodyRow : OpenClaim := { program := "yteeogabkkblkgaagreatdoor", sum := "a90a20bb4d8acf787dae26760115e59ff98ed7557d28222ee6858d4f99f3ff71", func := "bypath/bypathlaw12.PeerNobody", spec := "peerNobody", unfollowed := true, recurses := true, named := ["bypath/frame.least"], plainKeys := false, apart := false, laid := [("bypath/frame.least", laid_bypath_frame_least)] }
def PeerNobodySaid : Prop := peerNobodyRow.holds Tryz.pinned (OpenSpec.ofChange peerNobodySpec)

/-- ITS FALSE NEIGHBOUR: 'it returns false'. Refute it at one input. -/
def peerNobodyWrong : ChangeSpec := { name := "peerNobody", fn := fun _ => fun
  | [d] => { results := [.lit (.bool false)], args := [d] }
  | _ => none }
def PeerNobodyWrongFalsely : Prop := peerNobodyRow.holds Tryz.pinned (OpenSpec.ofChange peerNobodyWrong)

/-- 'bypathlaw12.PeerFalls': WHATEVER THE INPUT: true; the input reads as it did. -/
def peerFallsSpec : ChangeSpec := { name := "peerFalls", fn := fun _ => fun
  | [d1, d2] => { results := [.lit (.bool true)], args := [d1, d2] }
  | _ => none }
def peerFallsRow : OpenClaim := { program := "yteeogabkkblkgaagreatdoor", sum := "a90a20bb4d8acf787dae26760115e59ff98ed7557d28222ee6858d4f99f3ff71", func := "bypath/bypathlaw12.PeerFalls", spec := "peerFalls", unfollowed := true, recurses := true, named := ["bypath/frame.least"], plainKeys := false, apart := false, laid := [("bypath/frame.least", laid_bypath_frame_least)] }
def PeerFallsSaid : Prop := peerFallsRow.holds Tryz.pinned (OpenSpec.ofChange peerFallsSpec)

/-- ITS FALSE NEIGHBOUR: 'it returns false'. Refute it at one input. -/
def peerFallsWrong : ChangeSpec := { name := "peerFalls", fn := fun _ => fun
  | [d1, d2] => { results := [.lit (.bool false)], args := [d1, d2] }
  | _ => none }
def PeerFallsWrongFalsely : Prop := peerFallsRow.holds Tryz.pinned (OpenSpec.ofChange peerFallsWrong)

/-- 'bypathlaw12.PeerDoes': WHATEVER THE INPUT: true; the input reads as it did. -/
def peerDoesSpec : ChangeSpec := { name := "peerDoes", fn := fun _ => fun
  | [d1, d2, d3, d4] => { results := [.lit (.bool true)], args := [d1, d2, d3, d4] }
  | _ => none }
def peerDoesRow : OpenClaim := { program := "yteeogabkkblkgaagreatdoor", sum := "a90a20bb4d8acf787dae26760115e59ff98ed7557d28222ee6858d4f99f3ff71", func := "bypath/bypathlaw12.PeerDoes", spec := "peerDoes", unfollowed := true, recurses := true, named := ["bypath/frame.least"], plainKeys := false, apart := false, laid := [("bypath/frame.least", laid_bypath_frame_least)] }
def PeerDoesSaid : Prop := peerDoesRow.holds Tryz.pinned (OpenSpec.ofChange peerDoesSpec)

/-- ITS FALSE NEIGHBOUR: 'it returns false'. Refute it at one input. -/
def peerDoesWrong : ChangeSpec := { name := "peerDoes", fn := fun _ => fun
  | [d1, d2, d3, d4] => { results := [.lit (.bool false)], args := [d1, d2, d3, d4] }
  | _ => none }
def PeerDoesWrongFalsely : Prop := peerDoesRow.holds Tryz.pinned (OpenSpec.ofChange peerDoesWrong)

/- THE SECOND FORM. 'bulk': how many values and letters a reading holds, each counted each time it is reached (what is shared counts as often as it is met; a slice's spare places count too). A statement '..UptoSaid' is the law's where the arguments, and the package variables that the reading takes, are together of bulk at most 1048576: NARROWER than '..Said'. Prove '..Said' where nothing that the law and all that it calls make is longer than what came in: it says more and counts as full. Else prove '..UptoSaid'. A law counts once. -/
mutual
def uptoBulk {H : Type} : DataW H → Nat
  | .lit (.string bytes) => bytes.length + 1
  | .lit _ => 1
  | .nil => 1
  | .ptr d => uptoBulk d + 1
  | .slice elems spare => uptoBulkAll elems + uptoBulkAll spare + 1
  | .agg parts => uptoBulkAll parts + 1
  | .iface _ d => uptoBulk d + 1
  | .map entries => uptoBulkEntries entries + 1
  | .held _ => 1
def uptoBulkAll {H : Type} : List (DataW H) → Nat
  | [] => 0
  | d :: r => uptoBulk d + uptoBulkAll r
def uptoBulkEntries {H : Type} : List (Lit × DataW H) → Nat
  | [] => 0
  | x :: r => uptoBulkEntry x + uptoBulkEntries r
def uptoBulkEntry {H : Type} : Lit × DataW H → Nat
  | (.string bytes, d) => bytes.length + uptoBulk d + 1
  | (_, d) => uptoBulk d + 1
 end
def uptoSmall : (H : Type) → List (DataW H) → Bool := fun _ ds => decide (uptoBulkAll ds ≤ 1048576)
def OpenSpec.upto (s : _root_.Go.ChangeSpec) : _root_.Go.OpenSpec := { _root_.Go.OpenSpec.ofChange s with cond := some uptoSmall }

/-- 'bypathlaw12.PeerPieces', WHERE WHAT IT READS IS OF BULK AT MOST 1048576: true; the input reads as it did. -/
def peerPiecesUptoRow : OpenClaim := { program := "yteeogabkkblkgaagreatdoor", sum := "a90a20bb4d8acf787dae26760115e59ff98ed7557d28222ee6858d4f99f3ff71", func := "bypath/bypathlaw12.PeerPieces", spec := "peerPieces", unfollowed := true, recurses := true, named := ["bypath/frame.least"], plainKeys := false, apart := false, laid := [("bypath/frame.least", laid_bypath_frame_least)], narrowed := true }
def PeerPiecesUptoSaid : Prop := peerPiecesUptoRow.holds Tryz.pinned (OpenSpec.upto peerPiecesSpec)

/-- 'bypathlaw12.PeerSends', WHERE WHAT IT READS IS OF BULK AT MOST 1048576: true; the input reads as it did. -/
def peerSendsUptoRow : OpenClaim := { program := "yteeogabkkblkgaagreatdoor", sum := "a90a20bb4d8acf787dae26760115e59ff98ed7557d28222ee6858d4f99f3ff71", func := "bypath/bypathlaw12.PeerSends", spec := "peerSends", unfollowed := true, recurses := true, named := ["bypath/frame.least"], plainKeys := false, apart := false, laid := [("bypath/frame.least", laid_bypath_frame_least)], narrowed := true }
def PeerSendsUptoSaid : Prop := peerSendsUptoRow.holds Tryz.pinned (OpenSpec.upto peerSendsSpec)

/-- 'bypathlaw12.PeerNobody', WHERE WHAT IT READS IS OF BULK AT MOST 1048576: true; the input reads as it did. -/
def peerNobodyUptoRow : OpenClaim := { program := "yteeogabkkblkgaagreatdoor", sum := "a90a20bb4d8acf787dae26760115e59ff98ed7557d28222ee6858d4f99f3ff71", func := "bypath/bypathlaw12.PeerNobody", spec := "peerNobody", unfollowed := true, recurses := true, named := ["bypath/frame.least"], plainKeys := false, apart := false, laid := [("bypath/frame.least", laid_bypath_frame_least)], narrowed := true }
def PeerNobodyUptoSaid : Prop := peerNobodyUptoRow.holds Tryz.pinned (OpenSpec.upto peerNobodySpec)

/-- 'bypathlaw12.PeerFalls', WHERE WHAT IT READS IS OF BULK AT MOST 1048576: true; the input reads as it did. -/
def peerFallsUptoRow : OpenClaim := { program := "yteeogabkkblkgaagreatdoor", sum := "a90a20bb4d8acf787dae26760115e59ff98ed7557d28222ee6858d4f99f3ff71", func := "bypath/bypathlaw12.PeerFalls", spec := "peerFalls", unfollowed := true, recurses := true, named := ["bypath/frame.least"], plainKeys := false, apart := false, laid := [("bypath/frame.least", laid_bypath_frame_least)], narrowed := true }
def PeerFallsUptoSaid : Prop := peerFallsUptoRow.holds Tryz.pinned (OpenSpec.upto peerFallsSpec)

/-- 'bypathlaw12.PeerDoes', WHERE WHAT IT READS IS OF BULK AT MOST 1048576: true; the input reads as it did. -/
def peerDoesUptoRow : OpenClaim := { program := "yteeogabkkblkgaagreatdoor", sum := "a90a20bb4d8acf787dae26760115e59ff98ed7557d28222ee6858d4f99f3ff71", func := "bypath/bypathlaw12.PeerDoes", spec := "peerDoes", unfollowed := true, recurses := true, named := ["bypath/frame.least"], plainKeys := false, apart := false, laid := [("bypath/frame.least", laid_bypath_frame_least)], narrowed := true }
def PeerDoesUptoSaid : Prop := peerDoesUptoRow.holds Tryz.pinned (OpenSpec.upto peerDoesSpec)

end Rows
end Go.Proofs.YteeogabkkblkgaaGreatDoor
