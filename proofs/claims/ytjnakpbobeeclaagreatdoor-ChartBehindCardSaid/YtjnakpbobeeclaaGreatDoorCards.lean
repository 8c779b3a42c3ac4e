/-
  DERIVED. GIVEN WITH THE SEED: THE CARDS: each row of YtjnakpbobeeclaaGreatDoorRows.lean that lists a variable, with what it lists TIED to the program's text (the seventh form; the later family's looks); each row that meets fmt, with fmt's text TOLD by the authors' own Lean function (tested against real Go, not proved from fmt's source: count such statements apart). THE CARD IS WHAT COUNTS. Prove the row's statement (the work); the ties are given (YtjnakpbobeeclaaGreatDoorTie.lean); close each card by the builder's one call (the guide's Derived/Test/ToyasCard.lean, 'card_holds'). Laid BY PROGRAM, IN A SANDBOX (cutbox-door.mjs). By AI agents, Wed Nov 11 2026. No macro, syntax, notation, axiom, sorry.
-/
import Derived.Test.YtjnakpbobeeclaaGreatDoorRows
import GoSem.ClaimSeven
namespace Go.Proofs.YtjnakpbobeeclaaGreatDoor
namespace Rows

/-- THE TIED CARD OF 'legatelaw25.ChartTells'. -/
def chartTellsCard : Claim7 := { stood := { row := chartTellsRow, standIns := [], harness := (true, "a9efee7d2d1a43aa8c289d09d33699d9e6f326c86eeabd131ea774e3aa62e9f0"), looks := true }, kinds := [], alts := [], laidByText := true, laidKinds := [.data, .data, .data, .sentinel, .sentinel], laidTests := true, laidLooks := .later }
def ChartTellsCardSaid : Prop := Claim7.holds Tryz.pinned (.plain (OpenSpec.ofChange chartTellsSpec)) chartTellsCard

/-- THE TIED CARD OF 'legatelaw25.ChartFinds'. -/
def chartFindsCard : Claim7 := { stood := { row := chartFindsRow, standIns := [], harness := (true, "a9efee7d2d1a43aa8c289d09d33699d9e6f326c86eeabd131ea774e3aa62e9f0"), looks := true }, kinds := [], alts := [], laidByText := true, laidKinds := [.data, .data, .data, .sentinel, .sentinel], laidTests := true, laidLooks := .later }
def ChartFindsCardSaid : Prop := Claim7.holds Tryz.pinned (.plain (OpenSpec.ofChange chartFindsSpec)) chartFindsCard

/-- THE TIED CARD OF 'legatelaw25.ChartNames'. -/
def chartNamesCard : Claim7 := { stood := { row := chartNamesRow, standIns := [], harness := (true, "a9efee7d2d1a43aa8c289d09d33699d9e6f326c86eeabd131ea774e3aa62e9f0"), looks := true }, kinds := [], alts := [], laidByText := true, laidKinds := [.data, .data, .data, .sentinel, .sentinel], laidTests := true, laidLooks := .later }
def ChartNamesCardSaid : Prop := Claim7.holds Tryz.pinned (.plain (OpenSpec.ofChange chartNamesSpec)) chartNamesCard

/-- THE TIED CARD OF 'legatelaw25.ChartBehind'. -/
def chartBehindCard : Claim7 := { stood := { row := chartBehindRow, standIns := [], harness := (true, "a9efee7d2d1a43aa8c289d09d33699d9e6f326c86eeabd131ea774e3aa62e9f0"), looks := true }, kinds := [], alts := [], laidByText := true, laidKinds := [.data, .data, .data, .sentinel, .sentinel], laidTests := true, laidLooks := .later }
def ChartBehindCardSaid : Prop := Claim7.holds Tryz.pinned (.plain (OpenSpec.ofChange chartBehindSpec)) chartBehindCard

/-- THE SECOND FORM's CARD OF 'legatelaw25.ChartTells'. -/
def chartTellsUptoCard : Claim7 := { stood := { row := chartTellsUptoRow, standIns := [], harness := (true, "a9efee7d2d1a43aa8c289d09d33699d9e6f326c86eeabd131ea774e3aa62e9f0"), looks := true }, kinds := [], alts := [], laidByText := true, laidKinds := [.data, .data, .data, .sentinel, .sentinel], laidTests := true, laidLooks := .later }
def ChartTellsUptoCardSaid : Prop := Claim7.holds Tryz.pinned (.plain (OpenSpec.upto chartTellsSpec)) chartTellsUptoCard

/-- THE SECOND FORM's CARD OF 'legatelaw25.ChartFinds'. -/
def chartFindsUptoCard : Claim7 := { stood := { row := chartFindsUptoRow, standIns := [], harness := (true, "a9efee7d2d1a43aa8c289d09d33699d9e6f326c86eeabd131ea774e3aa62e9f0"), looks := true }, kinds := [], alts := [], laidByText := true, laidKinds := [.data, .data, .data, .sentinel, .sentinel], laidTests := true, laidLooks := .later }
def ChartFindsUptoCardSaid : Prop := Claim7.holds Tryz.pinned (.plain (OpenSpec.upto chartFindsSpec)) chartFindsUptoCard

/-- THE SECOND FORM's CARD OF 'legatelaw25.ChartNames'. -/
def chartNamesUptoCard : Claim7 := { stood := { row := chartNamesUptoRow, standIns := [], harness := (true, "a9efee7d2d1a43aa8c289d09d33699d9e6f326c86eeabd131ea774e3aa62e9f0"), looks := true }, kinds := [], alts := [], laidByText := true, laidKinds := [.data, .data, .data, .sentinel, .sentinel], laidTests := true, laidLooks := .later }
def ChartNamesUptoCardSaid : Prop := Claim7.holds Tryz.pinned (.plain (OpenSpec.upto chartNamesSpec)) chartNamesUptoCard

/-- THE SECOND FORM's CARD OF 'legatelaw25.ChartBehind'. -/
def chartBehindUptoCard : Claim7 := { stood := { row := chartBehindUptoRow, standIns := [], harness := (true, "a9efee7d2d1a43aa8c289d09d33699d9e6f326c86eeabd131ea774e3aa62e9f0"), looks := true }, kinds := [], alts := [], laidByText := true, laidKinds := [.data, .data, .data, .sentinel, .sentinel], laidTests := true, laidLooks := .later }
def ChartBehindUptoCardSaid : Prop := Claim7.holds Tryz.pinned (.plain (OpenSpec.upto chartBehindSpec)) chartBehindUptoCard
end Rows
end Go.Proofs.YtjnakpbobeeclaaGreatDoor
