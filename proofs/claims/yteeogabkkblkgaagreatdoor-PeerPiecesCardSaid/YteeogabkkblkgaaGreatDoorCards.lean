/-
  DERIVED. GIVEN WITH THE SEED: THE CARDS: each row of YteeogabkkblkgaaGreatDoorRows.lean that lists a variable, with what it lists TIED to the program's text (the seventh form; the later family's looks); each row that meets fmt, with fmt's text TOLD by the authors' own Lean function (tested against real Go, not proved from fmt's source: count such statements apart). THE CARD IS WHAT COUNTS. Prove the row's statement (the work); the ties are given (YteeogabkkblkgaaGreatDoorTie.lean); close each card by the builder's one call (the guide's Derived/Test/ToyasCard.lean, 'card_holds'). Laid BY PROGRAM, IN A SANDBOX (cutbox-door.mjs). By AI agents, Wed Nov 11 2026. No macro, syntax, notation, axiom, sorry.
-/
import Derived.Test.YteeogabkkblkgaaGreatDoorRows
import GoSem.ClaimSeven
namespace Go.Proofs.YteeogabkkblkgaaGreatDoor
namespace Rows

/-- THE TIED CARD OF 'bypathlaw12.PeerPieces'. -/
def peerPiecesCard : Claim7 := { stood := { row := peerPiecesRow, standIns := [], harness := (true, "f03c22427f289bfc4ba5cb49bd33580f59919cabe073980c6345ca16740b3d24"), looks := false }, kinds := [], alts := [], laidByText := true, laidKinds := [.data], laidTests := true, laidLooks := .later }
def PeerPiecesCardSaid : Prop := Claim7.holds Tryz.pinned (.plain (OpenSpec.ofChange peerPiecesSpec)) peerPiecesCard

/-- THE TIED CARD OF 'bypathlaw12.PeerSends'. -/
def peerSendsCard : Claim7 := { stood := { row := peerSendsRow, standIns := [], harness := (true, "f03c22427f289bfc4ba5cb49bd33580f59919cabe073980c6345ca16740b3d24"), looks := false }, kinds := [], alts := [], laidByText := true, laidKinds := [.data], laidTests := true, laidLooks := .later }
def PeerSendsCardSaid : Prop := Claim7.holds Tryz.pinned (.plain (OpenSpec.ofChange peerSendsSpec)) peerSendsCard

/-- THE TIED CARD OF 'bypathlaw12.PeerNobody'. -/
def peerNobodyCard : Claim7 := { stood := { row := peerNobodyRow, standIns := [], harness := (true, "f03c22427f289bfc4ba5cb49bd33580f59919cabe073980c6345ca16740b3d24"), looks := false }, kinds := [], alts := [], laidByText := true, laidKinds := [.data], laidTests := true, laidLooks := .later }
def PeerNobodyCardSaid : Prop := Claim7.holds Tryz.pinned (.plain (OpenSpec.ofChange peerNobodySpec)) peerNobodyCard

/-- THE TIED CARD OF 'bypathlaw12.PeerFalls'. -/
def peerFallsCard : Claim7 := { stood := { row := peerFallsRow, standIns := [], harness := (true, "f03c22427f289bfc4ba5cb49bd33580f59919cabe073980c6345ca16740b3d24"), looks := false }, kinds := [], alts := [], laidByText := true, laidKinds := [.data], laidTests := true, laidLooks := .later }
def PeerFallsCardSaid : Prop := Claim7.holds Tryz.pinned (.plain (OpenSpec.ofChange peerFallsSpec)) peerFallsCard

/-- THE TIED CARD OF 'bypathlaw12.PeerDoes'. -/
def peerDoesCard : Claim7 := { stood := { row := peerDoesRow, standIns := [], harness := (true, "f03c22427f289bfc4ba5cb49bd33580f59919cabe073980c6345ca16740b3d24"), looks := false }, kinds := [], alts := [], laidByText := true, laidKinds := [.data], laidTests := true, laidLooks := .later }
def PeerDoesCardSaid : Prop := Claim7.holds Tryz.pinned (.plain (OpenSpec.ofChange peerDoesSpec)) peerDoesCard

/-- THE SECOND FORM's CARD OF 'bypathlaw12.PeerPieces'. -/
def peerPiecesUptoCard : Claim7 := { stood := { row := peerPiecesUptoRow, standIns := [], harness := (true, "f03c22427f289bfc4ba5cb49bd33580f59919cabe073980c6345ca16740b3d24"), looks := false }, kinds := [], alts := [], laidByText := true, laidKinds := [.data], laidTests := true, laidLooks := .later }
def PeerPiecesUptoCardSaid : Prop := Claim7.holds Tryz.pinned (.plain (OpenSpec.upto peerPiecesSpec)) peerPiecesUptoCard

/-- THE SECOND FORM's CARD OF 'bypathlaw12.PeerSends'. -/
def peerSendsUptoCard : Claim7 := { stood := { row := peerSendsUptoRow, standIns := [], harness := (true, "f03c22427f289bfc4ba5cb49bd33580f59919cabe073980c6345ca16740b3d24"), looks := false }, kinds := [], alts := [], laidByText := true, laidKinds := [.data], laidTests := true, laidLooks := .later }
def PeerSendsUptoCardSaid : Prop := Claim7.holds Tryz.pinned (.plain (OpenSpec.upto peerSendsSpec)) peerSendsUptoCard

/-- THE SECOND FORM's CARD OF 'bypathlaw12.PeerNobody'. -/
def peerNobodyUptoCard : Claim7 := { stood := { row := peerNobodyUptoRow, standIns := [], harness := (true, "f03c22427f289bfc4ba5cb49bd33580f59919cabe073980c6345ca16740b3d24"), looks := false }, kinds := [], alts := [], laidByText := true, laidKinds := [.data], laidTests := true, laidLooks := .later }
def PeerNobodyUptoCardSaid : Prop := Claim7.holds Tryz.pinned (.plain (OpenSpec.upto peerNobodySpec)) peerNobodyUptoCard

/-- THE SECOND FORM's CARD OF 'bypathlaw12.PeerFalls'. -/
def peerFallsUptoCard : Claim7 := { stood := { row := peerFallsUptoRow, standIns := [], harness := (true, "f03c22427f289bfc4ba5cb49bd33580f59919cabe073980c6345ca16740b3d24"), looks := false }, kinds := [], alts := [], laidByText := true, laidKinds := [.data], laidTests := true, laidLooks := .later }
def PeerFallsUptoCardSaid : Prop := Claim7.holds Tryz.pinned (.plain (OpenSpec.upto peerFallsSpec)) peerFallsUptoCard

/-- THE SECOND FORM's CARD OF 'bypathlaw12.PeerDoes'. -/
def peerDoesUptoCard : Claim7 := { stood := { row := peerDoesUptoRow, standIns := [], harness := (true, "f03c22427f289bfc4ba5cb49bd33580f59919cabe073980c6345ca16740b3d24"), looks := false }, kinds := [], alts := [], laidByText := true, laidKinds := [.data], laidTests := true, laidLooks := .later }
def PeerDoesUptoCardSaid : Prop := Claim7.holds Tryz.pinned (.plain (OpenSpec.upto peerDoesSpec)) peerDoesUptoCard
end Rows
end Go.Proofs.YteeogabkkblkgaaGreatDoor
