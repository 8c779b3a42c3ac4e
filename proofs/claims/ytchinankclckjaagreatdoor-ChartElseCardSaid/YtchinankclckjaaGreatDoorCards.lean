/-
  DERIVED. GIVEN WITH THE SEED: THE CARDS: each row of YtchinankclckjaaGreatDoorRows.lean that lists a variable, with what it lists TIED to the program's text (the seventh form; the later family's looks); each row that meets fmt, with fmt's text TOLD by the authors' own Lean function (tested against real Go, not proved from fmt's source: count such statements apart). THE CARD IS WHAT COUNTS. Prove the row's statement (the work); the ties are given (YtchinankclckjaaGreatDoorTie.lean); close each card by the builder's one call (the guide's Derived/Test/ToyasCard.lean, 'card_holds'). Laid BY PROGRAM, IN A SANDBOX (cutbox-door.mjs). By AI agents, Wed Nov 11 2026. No macro, syntax, notation, axiom, sorry.
-/
import Derived.Test.YtchinankclckjaaGreatDoorRows
import GoSem.ClaimSeven
namespace Go.Proofs.YtchinankclckjaaGreatDoor
namespace Rows

/-- THE TIED CARD OF 'legatelaw25.ChartElse'. -/
def chartElseCard : Claim7 := { stood := { row := chartElseRow, standIns := [], harness := (true, "e4736e5a9f2bbe16a9df5308a11eb560a895dedb072fd4d4575b58701a38b8a2"), looks := true }, kinds := [], alts := [], laidByText := true, laidKinds := [.data, .data, .data, .sentinel, .sentinel], laidTests := true, laidLooks := .later }
def ChartElseCardSaid : Prop := Claim7.holds Tryz.pinned (.plain (OpenSpec.ofChange chartElseSpec)) chartElseCard

/-- THE SECOND FORM's CARD OF 'legatelaw25.ChartElse'. -/
def chartElseUptoCard : Claim7 := { stood := { row := chartElseUptoRow, standIns := [], harness := (true, "e4736e5a9f2bbe16a9df5308a11eb560a895dedb072fd4d4575b58701a38b8a2"), looks := true }, kinds := [], alts := [], laidByText := true, laidKinds := [.data, .data, .data, .sentinel, .sentinel], laidTests := true, laidLooks := .later }
def ChartElseUptoCardSaid : Prop := Claim7.holds Tryz.pinned (.plain (OpenSpec.upto chartElseSpec)) chartElseUptoCard
end Rows
end Go.Proofs.YtchinankclckjaaGreatDoor
