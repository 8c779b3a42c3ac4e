/-
  DERIVED. GIVEN WITH THE SEED: THE CARDS: each row of YtfdecbfcddkoiaaGreatDoorRows.lean that lists a variable, with what it lists TIED to the program's text (the seventh form; the later family's looks); each row that meets fmt, with fmt's text TOLD by the authors' own Lean function (tested against real Go, not proved from fmt's source: count such statements apart). THE CARD IS WHAT COUNTS. Prove the row's statement (the work); the ties are given (YtfdecbfcddkoiaaGreatDoorTie.lean); close each card by the builder's one call (the guide's Derived/Test/ToyasCard.lean, 'card_holds'). Laid BY PROGRAM, IN A SANDBOX (cutbox-door.mjs). By AI agents, Wed Nov 11 2026. No macro, syntax, notation, axiom, sorry.
-/
import Derived.Test.YtfdecbfcddkoiaaGreatDoorRows
import GoSem.ClaimSeven
namespace Go.Proofs.YtfdecbfcddkoiaaGreatDoor
namespace Rows

/-- THE TIED CARD OF 'legatelaw09.ReadReads'. -/
def readReadsCard : Claim7 := { stood := { row := readReadsRow, standIns := [], harness := (true, "fb171cb5e8df7498a072481c04b2c28b31c20de33b6b86fe06187f722eb57f44"), looks := true }, kinds := [], alts := [], laidByText := true, laidKinds := [.data, .data, .data, .sentinel, .sentinel], laidTests := true, laidLooks := .later }
def ReadReadsCardSaid : Prop := Claim7.holds Tryz.pinned (.plain (OpenSpec.ofChange readReadsSpec)) readReadsCard

/-- THE TIED CARD OF 'legatelaw09.ReadSpelt'. -/
def readSpeltCard : Claim7 := { stood := { row := readSpeltRow, standIns := [], harness := (true, "fb171cb5e8df7498a072481c04b2c28b31c20de33b6b86fe06187f722eb57f44"), looks := true }, kinds := [], alts := [], laidByText := true, laidKinds := [.data, .data, .data, .sentinel, .sentinel], laidTests := true, laidLooks := .later }
def ReadSpeltCardSaid : Prop := Claim7.holds Tryz.pinned (.plain (OpenSpec.ofChange readSpeltSpec)) readSpeltCard

/-- THE SECOND FORM's CARD OF 'legatelaw09.ReadReads'. -/
def readReadsUptoCard : Claim7 := { stood := { row := readReadsUptoRow, standIns := [], harness := (true, "fb171cb5e8df7498a072481c04b2c28b31c20de33b6b86fe06187f722eb57f44"), looks := true }, kinds := [], alts := [], laidByText := true, laidKinds := [.data, .data, .data, .sentinel, .sentinel], laidTests := true, laidLooks := .later }
def ReadReadsUptoCardSaid : Prop := Claim7.holds Tryz.pinned (.plain (OpenSpec.upto readReadsSpec)) readReadsUptoCard

/-- THE SECOND FORM's CARD OF 'legatelaw09.ReadSpelt'. -/
def readSpeltUptoCard : Claim7 := { stood := { row := readSpeltUptoRow, standIns := [], harness := (true, "fb171cb5e8df7498a072481c04b2c28b31c20de33b6b86fe06187f722eb57f44"), looks := true }, kinds := [], alts := [], laidByText := true, laidKinds := [.data, .data, .data, .sentinel, .sentinel], laidTests := true, laidLooks := .later }
def ReadSpeltUptoCardSaid : Prop := Claim7.holds Tryz.pinned (.plain (OpenSpec.upto readSpeltSpec)) readSpeltUptoCard
end Rows
end Go.Proofs.YtfdecbfcddkoiaaGreatDoor
