/-
  DERIVED. GIVEN WITH THE SEED: THE CARDS: each row of YtkphgjkflhjfjaaGreatDoorRows.lean that lists a variable, with what it lists TIED to the program's text (the seventh form; the later family's looks); each row that meets fmt, with fmt's text TOLD by the authors' own Lean function (tested against real Go, not proved from fmt's source: count such statements apart). THE CARD IS WHAT COUNTS. Prove the row's statement (the work); the ties are given (YtkphgjkflhjfjaaGreatDoorTie.lean); close each card by the builder's one call (the guide's Derived/Test/ToyasCard.lean, 'card_holds'). Laid BY PROGRAM, IN A SANDBOX (cutbox-door.mjs). By AI agents, Wed Nov 11 2026. No macro, syntax, notation, axiom, sorry.
-/
import Derived.Test.YtkphgjkflhjfjaaGreatDoorRows
import GoSem.ClaimSeven
namespace Go.Proofs.YtkphgjkflhjfjaaGreatDoor
namespace Rows

/-- THE TIED CARD OF 'legatelaw25.ChartTells'. -/
def chartTellsCard : Claim7 := { stood := { row := chartTellsRow, standIns := [], harness := (true, "4853649ed1ab3b1616157df30809e334c3540ad73c00cada6c7269de8442295d"), looks := true }, kinds := [], alts := [], laidByText := true, laidKinds := [.data, .data, .data, .sentinel, .sentinel], laidTests := true, laidLooks := .later }
def ChartTellsCardSaid : Prop := Claim7.holds Tryz.pinned (.plain (OpenSpec.ofChange chartTellsSpec)) chartTellsCard

/-- THE TIED CARD OF 'legatelaw25.ChartNames'. -/
def chartNamesCard : Claim7 := { stood := { row := chartNamesRow, standIns := [], harness := (true, "4853649ed1ab3b1616157df30809e334c3540ad73c00cada6c7269de8442295d"), looks := true }, kinds := [], alts := [], laidByText := true, laidKinds := [.data, .data, .data, .sentinel, .sentinel], laidTests := true, laidLooks := .later }
def ChartNamesCardSaid : Prop := Claim7.holds Tryz.pinned (.plain (OpenSpec.ofChange chartNamesSpec)) chartNamesCard

/-- THE SECOND FORM's CARD OF 'legatelaw25.ChartTells'. -/
def chartTellsUptoCard : Claim7 := { stood := { row := chartTellsUptoRow, standIns := [], harness := (true, "4853649ed1ab3b1616157df30809e334c3540ad73c00cada6c7269de8442295d"), looks := true }, kinds := [], alts := [], laidByText := true, laidKinds := [.data, .data, .data, .sentinel, .sentinel], laidTests := true, laidLooks := .later }
def ChartTellsUptoCardSaid : Prop := Claim7.holds Tryz.pinned (.plain (OpenSpec.upto chartTellsSpec)) chartTellsUptoCard

/-- THE SECOND FORM's CARD OF 'legatelaw25.ChartNames'. -/
def chartNamesUptoCard : Claim7 := { stood := { row := chartNamesUptoRow, standIns := [], harness := (true, "4853649ed1ab3b1616157df30809e334c3540ad73c00cada6c7269de8442295d"), looks := true }, kinds := [], alts := [], laidByText := true, laidKinds := [.data, .data, .data, .sentinel, .sentinel], laidTests := true, laidLooks := .later }
def ChartNamesUptoCardSaid : Prop := Claim7.holds Tryz.pinned (.plain (OpenSpec.upto chartNamesSpec)) chartNamesUptoCard
end Rows
end Go.Proofs.YtkphgjkflhjfjaaGreatDoor
