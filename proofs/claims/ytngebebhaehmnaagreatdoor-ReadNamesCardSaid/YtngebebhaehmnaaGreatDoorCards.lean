/-
  DERIVED. GIVEN WITH THE SEED: THE CARDS: each row of YtngebebhaehmnaaGreatDoorRows.lean that lists a variable, with what it lists TIED to the program's text (the seventh form; the later family's looks); each row that meets fmt, with fmt's text TOLD by the authors' own Lean function (tested against real Go, not proved from fmt's source: count such statements apart). THE CARD IS WHAT COUNTS. Prove the row's statement (the work); the ties are given (YtngebebhaehmnaaGreatDoorTie.lean); close each card by the builder's one call (the guide's Derived/Test/ToyasCard.lean, 'card_holds'). Laid BY PROGRAM, IN A SANDBOX (cutbox-door.mjs). By AI agents, Wed Nov 11 2026. No macro, syntax, notation, axiom, sorry.
-/
import Derived.Test.YtngebebhaehmnaaGreatDoorRows
import GoSem.ClaimSeven
namespace Go.Proofs.YtngebebhaehmnaaGreatDoor
namespace Rows

/-- THE TIED CARD OF 'legatelaw09.ReadReads'. -/
def readReadsCard : Claim7 := { stood := { row := readReadsRow, standIns := [], harness := (true, "2a83ccc234a9674592fb97233bd2760b591e099a0d61b391152bc8da26e7e55f"), looks := true }, kinds := [], alts := [], laidByText := true, laidKinds := [.data, .data, .data, .sentinel, .sentinel], laidTests := true, laidLooks := .later }
def ReadReadsCardSaid : Prop := Claim7.holds Tryz.pinned (.plain (OpenSpec.ofChange readReadsSpec)) readReadsCard

/-- THE TIED CARD OF 'legatelaw09.ReadNames'. -/
def readNamesCard : Claim7 := { stood := { row := readNamesRow, standIns := [], harness := (true, "2a83ccc234a9674592fb97233bd2760b591e099a0d61b391152bc8da26e7e55f"), looks := true }, kinds := [], alts := [], laidByText := true, laidKinds := [.data, .data, .data, .sentinel, .sentinel], laidTests := true, laidLooks := .later }
def ReadNamesCardSaid : Prop := Claim7.holds Tryz.pinned (.plain (OpenSpec.ofChange readNamesSpec)) readNamesCard

/-- THE TIED CARD OF 'legatelaw09.ReadSpelt'. -/
def readSpeltCard : Claim7 := { stood := { row := readSpeltRow, standIns := [], harness := (true, "2a83ccc234a9674592fb97233bd2760b591e099a0d61b391152bc8da26e7e55f"), looks := true }, kinds := [], alts := [], laidByText := true, laidKinds := [.data, .data, .data, .sentinel, .sentinel], laidTests := true, laidLooks := .later }
def ReadSpeltCardSaid : Prop := Claim7.holds Tryz.pinned (.plain (OpenSpec.ofChange readSpeltSpec)) readSpeltCard

/-- THE TIED CARD OF 'legatelaw09.ReadBlanks'. -/
def readBlanksCard : Claim7 := { stood := { row := readBlanksRow, standIns := [], harness := (true, "2a83ccc234a9674592fb97233bd2760b591e099a0d61b391152bc8da26e7e55f"), looks := true }, kinds := [], alts := [], laidByText := true, laidKinds := [.data, .data, .data, .sentinel, .sentinel], laidTests := true, laidLooks := .later }
def ReadBlanksCardSaid : Prop := Claim7.holds Tryz.pinned (.plain (OpenSpec.ofChange readBlanksSpec)) readBlanksCard

/-- THE TIED CARD OF 'legatelaw09.ReadLists'. -/
def readListsCard : Claim7 := { stood := { row := readListsRow, standIns := [], harness := (true, "2a83ccc234a9674592fb97233bd2760b591e099a0d61b391152bc8da26e7e55f"), looks := true }, kinds := [], alts := [], laidByText := true, laidKinds := [.data, .data, .data, .sentinel, .sentinel], laidTests := true, laidLooks := .later }
def ReadListsCardSaid : Prop := Claim7.holds Tryz.pinned (.plain (OpenSpec.ofChange readListsSpec)) readListsCard

/-- THE TIED CARD OF 'legatelaw09.ReadObjects'. -/
def readObjectsCard : Claim7 := { stood := { row := readObjectsRow, standIns := [], harness := (true, "2a83ccc234a9674592fb97233bd2760b591e099a0d61b391152bc8da26e7e55f"), looks := true }, kinds := [], alts := [], laidByText := true, laidKinds := [.data, .data, .data, .sentinel, .sentinel], laidTests := true, laidLooks := .later }
def ReadObjectsCardSaid : Prop := Claim7.holds Tryz.pinned (.plain (OpenSpec.ofChange readObjectsSpec)) readObjectsCard

/-- THE TIED CARD OF 'legatelaw10.CanonBack'. -/
def canonBackCard : Claim7 := { stood := { row := canonBackRow, standIns := [], harness := (true, "2a83ccc234a9674592fb97233bd2760b591e099a0d61b391152bc8da26e7e55f"), looks := true }, kinds := [], alts := [], laidByText := true, laidKinds := [.data, .data, .data, .sentinel, .sentinel], laidTests := true, laidLooks := .later }
def CanonBackCardSaid : Prop := Claim7.holds Tryz.pinned (.plain (OpenSpec.ofChange canonBackSpec)) canonBackCard

/-- THE TIED CARD OF 'legatelaw10.CanonShort'. -/
def canonShortCard : Claim7 := { stood := { row := canonShortRow, standIns := [], harness := (true, "2a83ccc234a9674592fb97233bd2760b591e099a0d61b391152bc8da26e7e55f"), looks := true }, kinds := [], alts := [], laidByText := true, laidKinds := [.data, .data, .data, .sentinel, .sentinel], laidTests := true, laidLooks := .later }
def CanonShortCardSaid : Prop := Claim7.holds Tryz.pinned (.plain (OpenSpec.ofChange canonShortSpec)) canonShortCard

/-- THE SECOND FORM's CARD OF 'legatelaw09.ReadReads'. -/
def readReadsUptoCard : Claim7 := { stood := { row := readReadsUptoRow, standIns := [], harness := (true, "2a83ccc234a9674592fb97233bd2760b591e099a0d61b391152bc8da26e7e55f"), looks := true }, kinds := [], alts := [], laidByText := true, laidKinds := [.data, .data, .data, .sentinel, .sentinel], laidTests := true, laidLooks := .later }
def ReadReadsUptoCardSaid : Prop := Claim7.holds Tryz.pinned (.plain (OpenSpec.upto readReadsSpec)) readReadsUptoCard

/-- THE SECOND FORM's CARD OF 'legatelaw09.ReadNames'. -/
def readNamesUptoCard : Claim7 := { stood := { row := readNamesUptoRow, standIns := [], harness := (true, "2a83ccc234a9674592fb97233bd2760b591e099a0d61b391152bc8da26e7e55f"), looks := true }, kinds := [], alts := [], laidByText := true, laidKinds := [.data, .data, .data, .sentinel, .sentinel], laidTests := true, laidLooks := .later }
def ReadNamesUptoCardSaid : Prop := Claim7.holds Tryz.pinned (.plain (OpenSpec.upto readNamesSpec)) readNamesUptoCard

/-- THE SECOND FORM's CARD OF 'legatelaw09.ReadSpelt'. -/
def readSpeltUptoCard : Claim7 := { stood := { row := readSpeltUptoRow, standIns := [], harness := (true, "2a83ccc234a9674592fb97233bd2760b591e099a0d61b391152bc8da26e7e55f"), looks := true }, kinds := [], alts := [], laidByText := true, laidKinds := [.data, .data, .data, .sentinel, .sentinel], laidTests := true, laidLooks := .later }
def ReadSpeltUptoCardSaid : Prop := Claim7.holds Tryz.pinned (.plain (OpenSpec.upto readSpeltSpec)) readSpeltUptoCard

/-- THE SECOND FORM's CARD OF 'legatelaw09.ReadBlanks'. -/
def readBlanksUptoCard : Claim7 := { stood := { row := readBlanksUptoRow, standIns := [], harness := (true, "2a83ccc234a9674592fb97233bd2760b591e099a0d61b391152bc8da26e7e55f"), looks := true }, kinds := [], alts := [], laidByText := true, laidKinds := [.data, .data, .data, .sentinel, .sentinel], laidTests := true, laidLooks := .later }
def ReadBlanksUptoCardSaid : Prop := Claim7.holds Tryz.pinned (.plain (OpenSpec.upto readBlanksSpec)) readBlanksUptoCard

/-- THE SECOND FORM's CARD OF 'legatelaw09.ReadLists'. -/
def readListsUptoCard : Claim7 := { stood := { row := readListsUptoRow, standIns := [], harness := (true, "2a83ccc234a9674592fb97233bd2760b591e099a0d61b391152bc8da26e7e55f"), looks := true }, kinds := [], alts := [], laidByText := true, laidKinds := [.data, .data, .data, .sentinel, .sentinel], laidTests := true, laidLooks := .later }
def ReadListsUptoCardSaid : Prop := Claim7.holds Tryz.pinned (.plain (OpenSpec.upto readListsSpec)) readListsUptoCard

/-- THE SECOND FORM's CARD OF 'legatelaw09.ReadObjects'. -/
def readObjectsUptoCard : Claim7 := { stood := { row := readObjectsUptoRow, standIns := [], harness := (true, "2a83ccc234a9674592fb97233bd2760b591e099a0d61b391152bc8da26e7e55f"), looks := true }, kinds := [], alts := [], laidByText := true, laidKinds := [.data, .data, .data, .sentinel, .sentinel], laidTests := true, laidLooks := .later }
def ReadObjectsUptoCardSaid : Prop := Claim7.holds Tryz.pinned (.plain (OpenSpec.upto readObjectsSpec)) readObjectsUptoCard

/-- THE SECOND FORM's CARD OF 'legatelaw10.CanonBack'. -/
def canonBackUptoCard : Claim7 := { stood := { row := canonBackUptoRow, standIns := [], harness := (true, "2a83ccc234a9674592fb97233bd2760b591e099a0d61b391152bc8da26e7e55f"), looks := true }, kinds := [], alts := [], laidByText := true, laidKinds := [.data, .data, .data, .sentinel, .sentinel], laidTests := true, laidLooks := .later }
def CanonBackUptoCardSaid : Prop := Claim7.holds Tryz.pinned (.plain (OpenSpec.upto canonBackSpec)) canonBackUptoCard

/-- THE SECOND FORM's CARD OF 'legatelaw10.CanonShort'. -/
def canonShortUptoCard : Claim7 := { stood := { row := canonShortUptoRow, standIns := [], harness := (true, "2a83ccc234a9674592fb97233bd2760b591e099a0d61b391152bc8da26e7e55f"), looks := true }, kinds := [], alts := [], laidByText := true, laidKinds := [.data, .data, .data, .sentinel, .sentinel], laidTests := true, laidLooks := .later }
def CanonShortUptoCardSaid : Prop := Claim7.holds Tryz.pinned (.plain (OpenSpec.upto canonShortSpec)) canonShortUptoCard
end Rows
end Go.Proofs.YtngebebhaehmnaaGreatDoor
