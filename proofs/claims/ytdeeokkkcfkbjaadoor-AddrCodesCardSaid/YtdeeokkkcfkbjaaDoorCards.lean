/-
  DERIVED. GIVEN WITH THE SEED: THE CARDS: each row of YtdeeokkkcfkbjaaDoorRows.lean that lists a variable, with what it lists TIED to the program's text (the seventh form; the later family's looks); each row that meets fmt, with fmt's text TOLD by the authors' own Lean function (tested against real Go, not proved from fmt's source: count such statements apart). THE CARD IS WHAT COUNTS. Prove the row's statement (the work); the ties are given (YtdeeokkkcfkbjaaDoorTie.lean); close each card by the builder's one call (the guide's Derived/Test/ToyasCard.lean, 'card_holds'). Laid BY PROGRAM, IN A SANDBOX (cutbox-door.mjs). By AI agents, Wed Nov 11 2026. No macro, syntax, notation, axiom, sorry.
-/
import Derived.Test.YtdeeokkkcfkbjaaDoorRows
import GoSem.ClaimSeven
namespace Go.Proofs.YtdeeokkkcfkbjaaDoor
namespace Rows

/-- THE TIED CARD OF 'bypathlaw02.AddrMakes'. -/
def addrMakesCard : Claim7 := { stood := { row := addrMakesRow, standIns := [], harness := (true, "89c650f797d5310daedcca2ae1c8995d28d225df520928725c73746c5b60cf33"), looks := false }, kinds := [], alts := [], laidByText := true, laidKinds := [.data, .data, .data, .data, .pinned], laidTests := true, laidLooks := .later }
def AddrMakesCardSaid : Prop := Claim7.holds Tryd.pinned (.plain (OpenSpec.ofChange addrMakesSpec)) addrMakesCard

/-- THE TIED CARD OF 'bypathlaw02.AddrOrders'. -/
def addrOrdersCard : Claim7 := { stood := { row := addrOrdersRow, standIns := [], harness := (true, "89c650f797d5310daedcca2ae1c8995d28d225df520928725c73746c5b60cf33"), looks := false }, kinds := [], alts := [], laidByText := true, laidKinds := [.data, .data, .data, .data, .pinned], laidTests := true, laidLooks := .later }
def AddrOrdersCardSaid : Prop := Claim7.holds Tryd.pinned (.plain (OpenSpec.ofChange addrOrdersSpec)) addrOrdersCard

/-- THE TIED CARD OF 'bypathlaw02.AddrTexts'. -/
def addrTextsCard : Claim7 := { stood := { row := addrTextsRow, standIns := [], harness := (true, "89c650f797d5310daedcca2ae1c8995d28d225df520928725c73746c5b60cf33"), looks := false }, kinds := [], alts := [], laidByText := true, laidKinds := [.data, .data, .data, .data, .pinned], laidTests := true, laidLooks := .later }
def AddrTextsCardSaid : Prop := Claim7.holds Tryd.pinned (.plain (OpenSpec.ofChange addrTextsSpec)) addrTextsCard

/-- THE TIED CARD OF 'bypathlaw02.AddrParses'. -/
def addrParsesCard : Claim7 := { stood := { row := addrParsesRow, standIns := [], harness := (true, "89c650f797d5310daedcca2ae1c8995d28d225df520928725c73746c5b60cf33"), looks := false }, kinds := [], alts := [], laidByText := true, laidKinds := [.data, .data, .data, .data, .pinned], laidTests := true, laidLooks := .later }
def AddrParsesCardSaid : Prop := Claim7.holds Tryd.pinned (.plain (OpenSpec.ofChange addrParsesSpec)) addrParsesCard

/-- THE TIED CARD OF 'bypathlaw02.AddrCodes'. -/
def addrCodesCard : Claim7 := { stood := { row := addrCodesRow, standIns := [], harness := (true, "89c650f797d5310daedcca2ae1c8995d28d225df520928725c73746c5b60cf33"), looks := false }, kinds := [], alts := [], laidByText := true, laidKinds := [.data, .data, .data, .data, .pinned], laidTests := true, laidLooks := .later }
def AddrCodesCardSaid : Prop := Claim7.holds Tryd.pinned (.plain (OpenSpec.ofChange addrCodesSpec)) addrCodesCard

/-- THE TIED CARD OF 'bypathlaw02.AddrApart'. -/
def addrApartCard : Claim7 := { stood := { row := addrApartRow, standIns := [], harness := (true, "89c650f797d5310daedcca2ae1c8995d28d225df520928725c73746c5b60cf33"), looks := false }, kinds := [], alts := [], laidByText := true, laidKinds := [.data, .data, .data, .data, .pinned], laidTests := true, laidLooks := .later }
def AddrApartCardSaid : Prop := Claim7.holds Tryd.pinned (.plain (OpenSpec.ofChange addrApartSpec)) addrApartCard

/-- THE TIED CARD OF 'bypathlaw02.AddrHolds'. -/
def addrHoldsCard : Claim7 := { stood := { row := addrHoldsRow, standIns := [], harness := (true, "89c650f797d5310daedcca2ae1c8995d28d225df520928725c73746c5b60cf33"), looks := false }, kinds := [], alts := [], laidByText := true, laidKinds := [.data, .data, .data, .data, .pinned], laidTests := true, laidLooks := .later }
def AddrHoldsCardSaid : Prop := Claim7.holds Tryd.pinned (.plain (OpenSpec.ofChange addrHoldsSpec)) addrHoldsCard

/-- THE SECOND FORM's CARD OF 'bypathlaw02.AddrMakes'. -/
def addrMakesUptoCard : Claim7 := { stood := { row := addrMakesUptoRow, standIns := [], harness := (true, "89c650f797d5310daedcca2ae1c8995d28d225df520928725c73746c5b60cf33"), looks := false }, kinds := [], alts := [], laidByText := true, laidKinds := [.data, .data, .data, .data, .pinned], laidTests := true, laidLooks := .later }
def AddrMakesUptoCardSaid : Prop := Claim7.holds Tryd.pinned (.plain (OpenSpec.upto addrMakesSpec)) addrMakesUptoCard

/-- THE SECOND FORM's CARD OF 'bypathlaw02.AddrOrders'. -/
def addrOrdersUptoCard : Claim7 := { stood := { row := addrOrdersUptoRow, standIns := [], harness := (true, "89c650f797d5310daedcca2ae1c8995d28d225df520928725c73746c5b60cf33"), looks := false }, kinds := [], alts := [], laidByText := true, laidKinds := [.data, .data, .data, .data, .pinned], laidTests := true, laidLooks := .later }
def AddrOrdersUptoCardSaid : Prop := Claim7.holds Tryd.pinned (.plain (OpenSpec.upto addrOrdersSpec)) addrOrdersUptoCard

/-- THE SECOND FORM's CARD OF 'bypathlaw02.AddrTexts'. -/
def addrTextsUptoCard : Claim7 := { stood := { row := addrTextsUptoRow, standIns := [], harness := (true, "89c650f797d5310daedcca2ae1c8995d28d225df520928725c73746c5b60cf33"), looks := false }, kinds := [], alts := [], laidByText := true, laidKinds := [.data, .data, .data, .data, .pinned], laidTests := true, laidLooks := .later }
def AddrTextsUptoCardSaid : Prop := Claim7.holds Tryd.pinned (.plain (OpenSpec.upto addrTextsSpec)) addrTextsUptoCard

/-- THE SECOND FORM's CARD OF 'bypathlaw02.AddrParses'. -/
def addrParsesUptoCard : Claim7 := { stood := { row := addrParsesUptoRow, standIns := [], harness := (true, "89c650f797d5310daedcca2ae1c8995d28d225df520928725c73746c5b60cf33"), looks := false }, kinds := [], alts := [], laidByText := true, laidKinds := [.data, .data, .data, .data, .pinned], laidTests := true, laidLooks := .later }
def AddrParsesUptoCardSaid : Prop := Claim7.holds Tryd.pinned (.plain (OpenSpec.upto addrParsesSpec)) addrParsesUptoCard

/-- THE SECOND FORM's CARD OF 'bypathlaw02.AddrCodes'. -/
def addrCodesUptoCard : Claim7 := { stood := { row := addrCodesUptoRow, standIns := [], harness := (true, "89c650f797d5310daedcca2ae1c8995d28d225df520928725c73746c5b60cf33"), looks := false }, kinds := [], alts := [], laidByText := true, laidKinds := [.data, .data, .data, .data, .pinned], laidTests := true, laidLooks := .later }
def AddrCodesUptoCardSaid : Prop := Claim7.holds Tryd.pinned (.plain (OpenSpec.upto addrCodesSpec)) addrCodesUptoCard

/-- THE SECOND FORM's CARD OF 'bypathlaw02.AddrApart'. -/
def addrApartUptoCard : Claim7 := { stood := { row := addrApartUptoRow, standIns := [], harness := (true, "89c650f797d5310daedcca2ae1c8995d28d225df520928725c73746c5b60cf33"), looks := false }, kinds := [], alts := [], laidByText := true, laidKinds := [.data, .data, .data, .data, .pinned], laidTests := true, laidLooks := .later }
def AddrApartUptoCardSaid : Prop := Claim7.holds Tryd.pinned (.plain (OpenSpec.upto addrApartSpec)) addrApartUptoCard

/-- THE SECOND FORM's CARD OF 'bypathlaw02.AddrHolds'. -/
def addrHoldsUptoCard : Claim7 := { stood := { row := addrHoldsUptoRow, standIns := [], harness := (true, "89c650f797d5310daedcca2ae1c8995d28d225df520928725c73746c5b60cf33"), looks := false }, kinds := [], alts := [], laidByText := true, laidKinds := [.data, .data, .data, .data, .pinned], laidTests := true, laidLooks := .later }
def AddrHoldsUptoCardSaid : Prop := Claim7.holds Tryd.pinned (.plain (OpenSpec.upto addrHoldsSpec)) addrHoldsUptoCard
end Rows
end Go.Proofs.YtdeeokkkcfkbjaaDoor
