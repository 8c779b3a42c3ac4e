/-
  DERIVED. GIVEN WITH THE SEED: THE CARDS: each row of YtaloajeldimpnaaGreatDoorRows.lean that lists a variable, with what it lists TIED to the program's text (the seventh form; the later family's looks); each row that meets fmt, with fmt's text TOLD by the authors' own Lean function (tested against real Go, not proved from fmt's source: count such statements apart). THE CARD IS WHAT COUNTS. Prove the row's statement (the work); the ties are given (YtaloajeldimpnaaGreatDoorTie.lean); close each card by the builder's one call (the guide's Derived/Test/ToyasCard.lean, 'card_holds'). Laid BY PROGRAM, IN A SANDBOX (cutbox-door.mjs). By AI agents, Wed Nov 11 2026. No macro, syntax, notation, axiom, sorry.
-/
import Derived.Test.YtaloajeldimpnaaGreatDoorRows
import GoSem.ClaimSeven
namespace Go.Proofs.YtaloajeldimpnaaGreatDoor
namespace Rows

/-- THE TIED CARD OF 'legatelaw25.ChartBack'. -/
def chartBackCard : Claim7 := { stood := { row := chartBackRow, standIns := [], harness := (true, "2e75e12e28e5c0a39c09757b7b40a69b578ad6c0cbec11e54e74926be0aceeb7"), looks := true }, kinds := [], alts := [], laidByText := true, laidKinds := [.data, .data, .data, .sentinel, .sentinel], laidTests := true, laidLooks := .later }
def ChartBackCardSaid : Prop := Claim7.holds Tryz.pinned (.plain (OpenSpec.ofChange chartBackSpec)) chartBackCard

/-- THE TIED CARD OF 'legatelaw25.ChartElse'. -/
def chartElseCard : Claim7 := { stood := { row := chartElseRow, standIns := [], harness := (true, "2e75e12e28e5c0a39c09757b7b40a69b578ad6c0cbec11e54e74926be0aceeb7"), looks := true }, kinds := [], alts := [], laidByText := true, laidKinds := [.data, .data, .data, .sentinel, .sentinel], laidTests := true, laidLooks := .later }
def ChartElseCardSaid : Prop := Claim7.holds Tryz.pinned (.plain (OpenSpec.ofChange chartElseSpec)) chartElseCard

/-- THE SECOND FORM's CARD OF 'legatelaw25.ChartBack'. -/
def chartBackUptoCard : Claim7 := { stood := { row := chartBackUptoRow, standIns := [], harness := (true, "2e75e12e28e5c0a39c09757b7b40a69b578ad6c0cbec11e54e74926be0aceeb7"), looks := true }, kinds := [], alts := [], laidByText := true, laidKinds := [.data, .data, .data, .sentinel, .sentinel], laidTests := true, laidLooks := .later }
def ChartBackUptoCardSaid : Prop := Claim7.holds Tryz.pinned (.plain (OpenSpec.upto chartBackSpec)) chartBackUptoCard

/-- THE SECOND FORM's CARD OF 'legatelaw25.ChartElse'. -/
def chartElseUptoCard : Claim7 := { stood := { row := chartElseUptoRow, standIns := [], harness := (true, "2e75e12e28e5c0a39c09757b7b40a69b578ad6c0cbec11e54e74926be0aceeb7"), looks := true }, kinds := [], alts := [], laidByText := true, laidKinds := [.data, .data, .data, .sentinel, .sentinel], laidTests := true, laidLooks := .later }
def ChartElseUptoCardSaid : Prop := Claim7.holds Tryz.pinned (.plain (OpenSpec.upto chartElseSpec)) chartElseUptoCard
end Rows
end Go.Proofs.YtaloajeldimpnaaGreatDoor
