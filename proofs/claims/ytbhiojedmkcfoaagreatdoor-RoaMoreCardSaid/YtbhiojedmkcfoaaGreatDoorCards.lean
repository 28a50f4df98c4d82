/-
  DERIVED. GIVEN WITH THE SEED: THE CARDS: each row of YtbhiojedmkcfoaaGreatDoorRows.lean that lists a variable, with what it lists TIED to the program's text (the seventh form; the later family's looks); each row that meets fmt, with fmt's text TOLD by the authors' own Lean function (tested against real Go, not proved from fmt's source: count such statements apart). THE CARD IS WHAT COUNTS. Prove the row's statement (the work); the ties are given (YtbhiojedmkcfoaaGreatDoorTie.lean); close each card by the builder's one call (the guide's Derived/Test/ToyasCard.lean, 'card_holds'). Laid BY PROGRAM, IN A SANDBOX (cutbox-door.mjs). By AI agents, Wed Nov 11 2026. No macro, syntax, notation, axiom, sorry.
-/
import Derived.Test.YtbhiojedmkcfoaaGreatDoorRows
import GoSem.ClaimSeven
namespace Go.Proofs.YtbhiojedmkcfoaaGreatDoor
namespace Rows

/-- THE TIED CARD OF 'bypathlaw19.ConfChecks'. -/
def confChecksCard : Claim7 := { stood := { row := confChecksRow, standIns := [], harness := (true, "233722c866b36341adae1ffb4152d31f4a020fadcda342fdae227500de088aee"), looks := true }, kinds := [], alts := [], laidByText := true, laidKinds := [.data, .data, .data, .data, .sentinel, .sentinel, .data, .pinned], laidTests := true, laidLooks := .later }
def ConfChecksCardSaid : Prop := Claim7.holds Tryz.pinned (.plain (OpenSpec.ofChange confChecksSpec)) confChecksCard

/-- THE TIED CARD OF 'bypathlaw19.ConfParses'. -/
def confParsesCard : Claim7 := { stood := { row := confParsesRow, standIns := [], harness := (true, "233722c866b36341adae1ffb4152d31f4a020fadcda342fdae227500de088aee"), looks := true }, kinds := [], alts := [], laidByText := true, laidKinds := [.data, .data, .data, .data, .sentinel, .sentinel, .data, .pinned], laidTests := true, laidLooks := .later }
def ConfParsesCardSaid : Prop := Claim7.holds Tryz.pinned (.plain (OpenSpec.ofChange confParsesSpec)) confParsesCard

/-- THE TIED CARD OF 'bypathlaw19.ConfSames'. -/
def confSamesCard : Claim7 := { stood := { row := confSamesRow, standIns := [], harness := (true, "233722c866b36341adae1ffb4152d31f4a020fadcda342fdae227500de088aee"), looks := true }, kinds := [], alts := [], laidByText := true, laidKinds := [.data, .data, .data, .data, .sentinel, .sentinel, .data, .pinned], laidTests := true, laidLooks := .later }
def ConfSamesCardSaid : Prop := Claim7.holds Tryz.pinned (.plain (OpenSpec.ofChange confSamesSpec)) confSamesCard

/-- THE TIED CARD OF 'bypathlaw19.ConfLines'. -/
def confLinesCard : Claim7 := { stood := { row := confLinesRow, standIns := [], harness := (true, "233722c866b36341adae1ffb4152d31f4a020fadcda342fdae227500de088aee"), looks := true }, kinds := [], alts := [], laidByText := true, laidKinds := [.data, .data, .data, .data, .sentinel, .sentinel, .data, .pinned], laidTests := true, laidLooks := .later }
def ConfLinesCardSaid : Prop := Claim7.holds Tryz.pinned (.plain (OpenSpec.ofChange confLinesSpec)) confLinesCard

/-- THE TIED CARD OF 'bypathlaw33.RoaStates'. -/
def roaStatesCard : Claim7 := { stood := { row := roaStatesRow, standIns := [], harness := (true, "233722c866b36341adae1ffb4152d31f4a020fadcda342fdae227500de088aee"), looks := true }, kinds := [], alts := [], laidByText := true, laidKinds := [.data, .data, .data, .data, .sentinel, .sentinel, .pinned], laidTests := true, laidLooks := .later }
def RoaStatesCardSaid : Prop := Claim7.holds Tryz.pinned (.plain (OpenSpec.ofChange roaStatesSpec)) roaStatesCard

/-- THE TIED CARD OF 'bypathlaw33.RoaFilters'. -/
def roaFiltersCard : Claim7 := { stood := { row := roaFiltersRow, standIns := [], harness := (true, "233722c866b36341adae1ffb4152d31f4a020fadcda342fdae227500de088aee"), looks := true }, kinds := [], alts := [], laidByText := true, laidKinds := [.data, .data, .data, .data, .sentinel, .sentinel, .pinned], laidTests := true, laidLooks := .later }
def RoaFiltersCardSaid : Prop := Claim7.holds Tryz.pinned (.plain (OpenSpec.ofChange roaFiltersSpec)) roaFiltersCard

/-- THE TIED CARD OF 'bypathlaw33.RoaMore'. -/
def roaMoreCard : Claim7 := { stood := { row := roaMoreRow, standIns := [], harness := (true, "233722c866b36341adae1ffb4152d31f4a020fadcda342fdae227500de088aee"), looks := true }, kinds := [], alts := [], laidByText := true, laidKinds := [.data, .data, .data, .data, .sentinel, .sentinel, .pinned], laidTests := true, laidLooks := .later }
def RoaMoreCardSaid : Prop := Claim7.holds Tryz.pinned (.plain (OpenSpec.ofChange roaMoreSpec)) roaMoreCard

/-- THE TIED CARD OF 'bypathlaw27.ScriptCodes'. -/
def scriptCodesCard : Claim7 := { stood := { row := scriptCodesRow, standIns := [], harness := (true, "233722c866b36341adae1ffb4152d31f4a020fadcda342fdae227500de088aee"), looks := true }, kinds := [], alts := [], laidByText := true, laidKinds := [.data, .data, .data, .data, .sentinel, .sentinel, .data, .pinned], laidTests := true, laidLooks := .later }
def ScriptCodesCardSaid : Prop := Claim7.holds Tryz.pinned (.plain (OpenSpec.ofChange scriptCodesSpec)) scriptCodesCard

/-- THE TIED CARD OF 'bypathlaw27.ScriptDecodes'. -/
def scriptDecodesCard : Claim7 := { stood := { row := scriptDecodesRow, standIns := [], harness := (true, "233722c866b36341adae1ffb4152d31f4a020fadcda342fdae227500de088aee"), looks := true }, kinds := [], alts := [], laidByText := true, laidKinds := [.data, .data, .data, .data, .sentinel, .sentinel, .data, .pinned], laidTests := true, laidLooks := .later }
def ScriptDecodesCardSaid : Prop := Claim7.holds Tryz.pinned (.plain (OpenSpec.ofChange scriptDecodesSpec)) scriptDecodesCard

/-- THE TIED CARD OF 'bypathlaw27.ScriptAdds'. -/
def scriptAddsCard : Claim7 := { stood := { row := scriptAddsRow, standIns := [], harness := (true, "233722c866b36341adae1ffb4152d31f4a020fadcda342fdae227500de088aee"), looks := true }, kinds := [], alts := [], laidByText := true, laidKinds := [.data, .data, .data, .data, .sentinel, .sentinel, .data, .pinned], laidTests := true, laidLooks := .later }
def ScriptAddsCardSaid : Prop := Claim7.holds Tryz.pinned (.plain (OpenSpec.ofChange scriptAddsSpec)) scriptAddsCard

/-- THE SECOND FORM's CARD OF 'bypathlaw19.ConfChecks'. -/
def confChecksUptoCard : Claim7 := { stood := { row := confChecksUptoRow, standIns := [], harness := (true, "233722c866b36341adae1ffb4152d31f4a020fadcda342fdae227500de088aee"), looks := true }, kinds := [], alts := [], laidByText := true, laidKinds := [.data, .data, .data, .data, .sentinel, .sentinel, .data, .pinned], laidTests := true, laidLooks := .later }
def ConfChecksUptoCardSaid : Prop := Claim7.holds Tryz.pinned (.plain (OpenSpec.upto confChecksSpec)) confChecksUptoCard

/-- THE SECOND FORM's CARD OF 'bypathlaw19.ConfParses'. -/
def confParsesUptoCard : Claim7 := { stood := { row := confParsesUptoRow, standIns := [], harness := (true, "233722c866b36341adae1ffb4152d31f4a020fadcda342fdae227500de088aee"), looks := true }, kinds := [], alts := [], laidByText := true, laidKinds := [.data, .data, .data, .data, .sentinel, .sentinel, .data, .pinned], laidTests := true, laidLooks := .later }
def ConfParsesUptoCardSaid : Prop := Claim7.holds Tryz.pinned (.plain (OpenSpec.upto confParsesSpec)) confParsesUptoCard

/-- THE SECOND FORM's CARD OF 'bypathlaw19.ConfSames'. -/
def confSamesUptoCard : Claim7 := { stood := { row := confSamesUptoRow, standIns := [], harness := (true, "233722c866b36341adae1ffb4152d31f4a020fadcda342fdae227500de088aee"), looks := true }, kinds := [], alts := [], laidByText := true, laidKinds := [.data, .data, .data, .data, .sentinel, .sentinel, .data, .pinned], laidTests := true, laidLooks := .later }
def ConfSamesUptoCardSaid : Prop := Claim7.holds Tryz.pinned (.plain (OpenSpec.upto confSamesSpec)) confSamesUptoCard

/-- THE SECOND FORM's CARD OF 'bypathlaw19.ConfLines'. -/
def confLinesUptoCard : Claim7 := { stood := { row := confLinesUptoRow, standIns := [], harness := (true, "233722c866b36341adae1ffb4152d31f4a020fadcda342fdae227500de088aee"), looks := true }, kinds := [], alts := [], laidByText := true, laidKinds := [.data, .data, .data, .data, .sentinel, .sentinel, .data, .pinned], laidTests := true, laidLooks := .later }
def ConfLinesUptoCardSaid : Prop := Claim7.holds Tryz.pinned (.plain (OpenSpec.upto confLinesSpec)) confLinesUptoCard

/-- THE SECOND FORM's CARD OF 'bypathlaw33.RoaStates'. -/
def roaStatesUptoCard : Claim7 := { stood := { row := roaStatesUptoRow, standIns := [], harness := (true, "233722c866b36341adae1ffb4152d31f4a020fadcda342fdae227500de088aee"), looks := true }, kinds := [], alts := [], laidByText := true, laidKinds := [.data, .data, .data, .data, .sentinel, .sentinel, .pinned], laidTests := true, laidLooks := .later }
def RoaStatesUptoCardSaid : Prop := Claim7.holds Tryz.pinned (.plain (OpenSpec.upto roaStatesSpec)) roaStatesUptoCard

/-- THE SECOND FORM's CARD OF 'bypathlaw33.RoaFilters'. -/
def roaFiltersUptoCard : Claim7 := { stood := { row := roaFiltersUptoRow, standIns := [], harness := (true, "233722c866b36341adae1ffb4152d31f4a020fadcda342fdae227500de088aee"), looks := true }, kinds := [], alts := [], laidByText := true, laidKinds := [.data, .data, .data, .data, .sentinel, .sentinel, .pinned], laidTests := true, laidLooks := .later }
def RoaFiltersUptoCardSaid : Prop := Claim7.holds Tryz.pinned (.plain (OpenSpec.upto roaFiltersSpec)) roaFiltersUptoCard

/-- THE SECOND FORM's CARD OF 'bypathlaw33.RoaMore'. -/
def roaMoreUptoCard : Claim7 := { stood := { row := roaMoreUptoRow, standIns := [], harness := (true, "233722c866b36341adae1ffb4152d31f4a020fadcda342fdae227500de088aee"), looks := true }, kinds := [], alts := [], laidByText := true, laidKinds := [.data, .data, .data, .data, .sentinel, .sentinel, .pinned], laidTests := true, laidLooks := .later }
def RoaMoreUptoCardSaid : Prop := Claim7.holds Tryz.pinned (.plain (OpenSpec.upto roaMoreSpec)) roaMoreUptoCard

/-- THE SECOND FORM's CARD OF 'bypathlaw27.ScriptCodes'. -/
def scriptCodesUptoCard : Claim7 := { stood := { row := scriptCodesUptoRow, standIns := [], harness := (true, "233722c866b36341adae1ffb4152d31f4a020fadcda342fdae227500de088aee"), looks := true }, kinds := [], alts := [], laidByText := true, laidKinds := [.data, .data, .data, .data, .sentinel, .sentinel, .data, .pinned], laidTests := true, laidLooks := .later }
def ScriptCodesUptoCardSaid : Prop := Claim7.holds Tryz.pinned (.plain (OpenSpec.upto scriptCodesSpec)) scriptCodesUptoCard

/-- THE SECOND FORM's CARD OF 'bypathlaw27.ScriptDecodes'. -/
def scriptDecodesUptoCard : Claim7 := { stood := { row := scriptDecodesUptoRow, standIns := [], harness := (true, "233722c866b36341adae1ffb4152d31f4a020fadcda342fdae227500de088aee"), looks := true }, kinds := [], alts := [], laidByText := true, laidKinds := [.data, .data, .data, .data, .sentinel, .sentinel, .data, .pinned], laidTests := true, laidLooks := .later }
def ScriptDecodesUptoCardSaid : Prop := Claim7.holds Tryz.pinned (.plain (OpenSpec.upto scriptDecodesSpec)) scriptDecodesUptoCard

/-- THE SECOND FORM's CARD OF 'bypathlaw27.ScriptAdds'. -/
def scriptAddsUptoCard : Claim7 := { stood := { row := scriptAddsUptoRow, standIns := [], harness := (true, "233722c866b36341adae1ffb4152d31f4a020fadcda342fdae227500de088aee"), looks := true }, kinds := [], alts := [], laidByText := true, laidKinds := [.data, .data, .data, .data, .sentinel, .sentinel, .data, .pinned], laidTests := true, laidLooks := .later }
def ScriptAddsUptoCardSaid : Prop := Claim7.holds Tryz.pinned (.plain (OpenSpec.upto scriptAddsSpec)) scriptAddsUptoCard
end Rows
end Go.Proofs.YtbhiojedmkcfoaaGreatDoor
