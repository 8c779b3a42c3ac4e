/-
  DERIVED. GIVEN WITH THE SEED: THE CARDS: each row of YtoeepggcklaaoaaDoorRows.lean that lists a variable, with what it lists TIED to the program's text (the seventh form; the later family's looks); each row that meets fmt, with fmt's text TOLD by the authors' own Lean function (tested against real Go, not proved from fmt's source: count such statements apart). THE CARD IS WHAT COUNTS. Prove the row's statement (the work); the ties are given (YtoeepggcklaaoaaDoorTie.lean); close each card by the builder's one call (the guide's Derived/Test/ToyasCard.lean, 'card_holds'). Laid BY PROGRAM, IN A SANDBOX (cutbox-door.mjs). By AI agents, Wed Nov 11 2026. No macro, syntax, notation, axiom, sorry.
-/
import Derived.Test.YtoeepggcklaaoaaDoorRows
import GoSem.ClaimSeven
namespace Go.Proofs.YtoeepggcklaaoaaDoor
namespace Rows

/-- THE TIED CARD OF 'legatelaw09.ReadMore'. -/
def readMoreCard : Claim7 := { stood := { row := readMoreRow, standIns := [], harness := (true, "270b61e1bd438414618d5115c3bcbaf277b061766a8070b829b8f90f36fe4eb6"), looks := true }, kinds := [], alts := [], laidByText := true, laidKinds := [.data, .data, .data, .sentinel, .sentinel], laidTests := true, laidLooks := .later }
def ReadMoreCardSaid : Prop := Claim7.holds Tryd.pinned (.plain (OpenSpec.ofChange readMoreSpec)) readMoreCard

/-- THE TIED CARD OF 'legatelaw09.ReadFront'. -/
def readFrontCard : Claim7 := { stood := { row := readFrontRow, standIns := [], harness := (true, "270b61e1bd438414618d5115c3bcbaf277b061766a8070b829b8f90f36fe4eb6"), looks := true }, kinds := [], alts := [], laidByText := true, laidKinds := [.data, .data, .data, .sentinel, .sentinel], laidTests := true, laidLooks := .later }
def ReadFrontCardSaid : Prop := Claim7.holds Tryd.pinned (.plain (OpenSpec.ofChange readFrontSpec)) readFrontCard

/-- THE SECOND FORM's CARD OF 'legatelaw09.ReadMore'. -/
def readMoreUptoCard : Claim7 := { stood := { row := readMoreUptoRow, standIns := [], harness := (true, "270b61e1bd438414618d5115c3bcbaf277b061766a8070b829b8f90f36fe4eb6"), looks := true }, kinds := [], alts := [], laidByText := true, laidKinds := [.data, .data, .data, .sentinel, .sentinel], laidTests := true, laidLooks := .later }
def ReadMoreUptoCardSaid : Prop := Claim7.holds Tryd.pinned (.plain (OpenSpec.upto readMoreSpec)) readMoreUptoCard

/-- THE SECOND FORM's CARD OF 'legatelaw09.ReadFront'. -/
def readFrontUptoCard : Claim7 := { stood := { row := readFrontUptoRow, standIns := [], harness := (true, "270b61e1bd438414618d5115c3bcbaf277b061766a8070b829b8f90f36fe4eb6"), looks := true }, kinds := [], alts := [], laidByText := true, laidKinds := [.data, .data, .data, .sentinel, .sentinel], laidTests := true, laidLooks := .later }
def ReadFrontUptoCardSaid : Prop := Claim7.holds Tryd.pinned (.plain (OpenSpec.upto readFrontSpec)) readFrontUptoCard
end Rows
end Go.Proofs.YtoeepggcklaaoaaDoor
