/-
  DERIVED. GIVEN WITH THE SEED: THE CARDS: each row of YtkflnbmbkilicaaDoorRows.lean that lists a variable, with what it lists TIED to the program's text (the seventh form; the later family's looks); each row that meets fmt, with fmt's text TOLD by the authors' own Lean function (tested against real Go, not proved from fmt's source: count such statements apart). THE CARD IS WHAT COUNTS. Prove the row's statement (the work); the ties are given (YtkflnbmbkilicaaDoorTie.lean); close each card by the builder's one call (the guide's Derived/Test/ToyasCard.lean, 'card_holds'). Laid BY PROGRAM, IN A SANDBOX (cutbox-door.mjs). By AI agents, Wed Nov 11 2026. No macro, syntax, notation, axiom, sorry.
-/
import Derived.Test.YtkflnbmbkilicaaDoorRows
import GoSem.ClaimSeven
namespace Go.Proofs.YtkflnbmbkilicaaDoor
namespace Rows

/-- THE TIED CARD OF 'legatelaw07.LexNames'. -/
def lexNamesCard : Claim7 := { stood := { row := lexNamesRow, standIns := [], harness := (true, "8bfca8bae5d321754392bd3c451c4dc3cf85fed91713f9bf45a4fbf7cf1ac284"), looks := true }, kinds := [], alts := [], laidByText := true, laidKinds := [.data, .data, .data, .sentinel, .sentinel], laidTests := true, laidLooks := .later }
def LexNamesCardSaid : Prop := Claim7.holds Tryd.pinned (.plain (OpenSpec.ofChange lexNamesSpec)) lexNamesCard

/-- THE TIED CARD OF 'legatelaw07.LexNext'. -/
def lexNextCard : Claim7 := { stood := { row := lexNextRow, standIns := [], harness := (true, "8bfca8bae5d321754392bd3c451c4dc3cf85fed91713f9bf45a4fbf7cf1ac284"), looks := true }, kinds := [], alts := [], laidByText := true, laidKinds := [.data, .data, .data, .sentinel, .sentinel], laidTests := true, laidLooks := .later }
def LexNextCardSaid : Prop := Claim7.holds Tryd.pinned (.plain (OpenSpec.ofChange lexNextSpec)) lexNextCard

/-- THE TIED CARD OF 'legatelaw07.LexAll'. -/
def lexAllCard : Claim7 := { stood := { row := lexAllRow, standIns := [], harness := (true, "8bfca8bae5d321754392bd3c451c4dc3cf85fed91713f9bf45a4fbf7cf1ac284"), looks := true }, kinds := [], alts := [], laidByText := true, laidKinds := [.data, .data, .data, .sentinel, .sentinel], laidTests := true, laidLooks := .later }
def LexAllCardSaid : Prop := Claim7.holds Tryd.pinned (.plain (OpenSpec.ofChange lexAllSpec)) lexAllCard

/-- THE TIED CARD OF 'legatelaw07.LexRow'. -/
def lexRowCard : Claim7 := { stood := { row := lexRowRow, standIns := [], harness := (true, "8bfca8bae5d321754392bd3c451c4dc3cf85fed91713f9bf45a4fbf7cf1ac284"), looks := true }, kinds := [], alts := [], laidByText := true, laidKinds := [.data, .data, .data, .sentinel, .sentinel], laidTests := true, laidLooks := .later }
def LexRowCardSaid : Prop := Claim7.holds Tryd.pinned (.plain (OpenSpec.ofChange lexRowSpec)) lexRowCard

/-- THE TIED CARD OF 'legatelaw07.LexBlanks'. -/
def lexBlanksCard : Claim7 := { stood := { row := lexBlanksRow, standIns := [], harness := (true, "8bfca8bae5d321754392bd3c451c4dc3cf85fed91713f9bf45a4fbf7cf1ac284"), looks := true }, kinds := [], alts := [], laidByText := true, laidKinds := [.data, .data, .data, .sentinel, .sentinel], laidTests := true, laidLooks := .later }
def LexBlanksCardSaid : Prop := Claim7.holds Tryd.pinned (.plain (OpenSpec.ofChange lexBlanksSpec)) lexBlanksCard

/-- THE TIED CARD OF 'legatelaw07.LexParts'. -/
def lexPartsCard : Claim7 := { stood := { row := lexPartsRow, standIns := [], harness := (true, "8bfca8bae5d321754392bd3c451c4dc3cf85fed91713f9bf45a4fbf7cf1ac284"), looks := true }, kinds := [], alts := [], laidByText := true, laidKinds := [.data, .data, .data, .sentinel, .sentinel], laidTests := true, laidLooks := .later }
def LexPartsCardSaid : Prop := Claim7.holds Tryd.pinned (.plain (OpenSpec.ofChange lexPartsSpec)) lexPartsCard

/-- THE TIED CARD OF 'legatelaw07.LexAlone'. -/
def lexAloneCard : Claim7 := { stood := { row := lexAloneRow, standIns := [], harness := (true, "8bfca8bae5d321754392bd3c451c4dc3cf85fed91713f9bf45a4fbf7cf1ac284"), looks := true }, kinds := [], alts := [], laidByText := true, laidKinds := [.data, .data, .data, .sentinel, .sentinel], laidTests := true, laidLooks := .later }
def LexAloneCardSaid : Prop := Claim7.holds Tryd.pinned (.plain (OpenSpec.ofChange lexAloneSpec)) lexAloneCard

/-- THE TIED CARD OF 'legatelaw09.ReadMore'. -/
def readMoreCard : Claim7 := { stood := { row := readMoreRow, standIns := [], harness := (true, "8bfca8bae5d321754392bd3c451c4dc3cf85fed91713f9bf45a4fbf7cf1ac284"), looks := true }, kinds := [], alts := [], laidByText := true, laidKinds := [.data, .data, .data, .sentinel, .sentinel], laidTests := true, laidLooks := .later }
def ReadMoreCardSaid : Prop := Claim7.holds Tryd.pinned (.plain (OpenSpec.ofChange readMoreSpec)) readMoreCard

/-- THE TIED CARD OF 'legatelaw09.ReadFront'. -/
def readFrontCard : Claim7 := { stood := { row := readFrontRow, standIns := [], harness := (true, "8bfca8bae5d321754392bd3c451c4dc3cf85fed91713f9bf45a4fbf7cf1ac284"), looks := true }, kinds := [], alts := [], laidByText := true, laidKinds := [.data, .data, .data, .sentinel, .sentinel], laidTests := true, laidLooks := .later }
def ReadFrontCardSaid : Prop := Claim7.holds Tryd.pinned (.plain (OpenSpec.ofChange readFrontSpec)) readFrontCard

/-- THE SECOND FORM's CARD OF 'legatelaw07.LexNames'. -/
def lexNamesUptoCard : Claim7 := { stood := { row := lexNamesUptoRow, standIns := [], harness := (true, "8bfca8bae5d321754392bd3c451c4dc3cf85fed91713f9bf45a4fbf7cf1ac284"), looks := true }, kinds := [], alts := [], laidByText := true, laidKinds := [.data, .data, .data, .sentinel, .sentinel], laidTests := true, laidLooks := .later }
def LexNamesUptoCardSaid : Prop := Claim7.holds Tryd.pinned (.plain (OpenSpec.upto lexNamesSpec)) lexNamesUptoCard

/-- THE SECOND FORM's CARD OF 'legatelaw07.LexNext'. -/
def lexNextUptoCard : Claim7 := { stood := { row := lexNextUptoRow, standIns := [], harness := (true, "8bfca8bae5d321754392bd3c451c4dc3cf85fed91713f9bf45a4fbf7cf1ac284"), looks := true }, kinds := [], alts := [], laidByText := true, laidKinds := [.data, .data, .data, .sentinel, .sentinel], laidTests := true, laidLooks := .later }
def LexNextUptoCardSaid : Prop := Claim7.holds Tryd.pinned (.plain (OpenSpec.upto lexNextSpec)) lexNextUptoCard

/-- THE SECOND FORM's CARD OF 'legatelaw07.LexAll'. -/
def lexAllUptoCard : Claim7 := { stood := { row := lexAllUptoRow, standIns := [], harness := (true, "8bfca8bae5d321754392bd3c451c4dc3cf85fed91713f9bf45a4fbf7cf1ac284"), looks := true }, kinds := [], alts := [], laidByText := true, laidKinds := [.data, .data, .data, .sentinel, .sentinel], laidTests := true, laidLooks := .later }
def LexAllUptoCardSaid : Prop := Claim7.holds Tryd.pinned (.plain (OpenSpec.upto lexAllSpec)) lexAllUptoCard

/-- THE SECOND FORM's CARD OF 'legatelaw07.LexRow'. -/
def lexRowUptoCard : Claim7 := { stood := { row := lexRowUptoRow, standIns := [], harness := (true, "8bfca8bae5d321754392bd3c451c4dc3cf85fed91713f9bf45a4fbf7cf1ac284"), looks := true }, kinds := [], alts := [], laidByText := true, laidKinds := [.data, .data, .data, .sentinel, .sentinel], laidTests := true, laidLooks := .later }
def LexRowUptoCardSaid : Prop := Claim7.holds Tryd.pinned (.plain (OpenSpec.upto lexRowSpec)) lexRowUptoCard

/-- THE SECOND FORM's CARD OF 'legatelaw07.LexBlanks'. -/
def lexBlanksUptoCard : Claim7 := { stood := { row := lexBlanksUptoRow, standIns := [], harness := (true, "8bfca8bae5d321754392bd3c451c4dc3cf85fed91713f9bf45a4fbf7cf1ac284"), looks := true }, kinds := [], alts := [], laidByText := true, laidKinds := [.data, .data, .data, .sentinel, .sentinel], laidTests := true, laidLooks := .later }
def LexBlanksUptoCardSaid : Prop := Claim7.holds Tryd.pinned (.plain (OpenSpec.upto lexBlanksSpec)) lexBlanksUptoCard

/-- THE SECOND FORM's CARD OF 'legatelaw07.LexParts'. -/
def lexPartsUptoCard : Claim7 := { stood := { row := lexPartsUptoRow, standIns := [], harness := (true, "8bfca8bae5d321754392bd3c451c4dc3cf85fed91713f9bf45a4fbf7cf1ac284"), looks := true }, kinds := [], alts := [], laidByText := true, laidKinds := [.data, .data, .data, .sentinel, .sentinel], laidTests := true, laidLooks := .later }
def LexPartsUptoCardSaid : Prop := Claim7.holds Tryd.pinned (.plain (OpenSpec.upto lexPartsSpec)) lexPartsUptoCard

/-- THE SECOND FORM's CARD OF 'legatelaw07.LexAlone'. -/
def lexAloneUptoCard : Claim7 := { stood := { row := lexAloneUptoRow, standIns := [], harness := (true, "8bfca8bae5d321754392bd3c451c4dc3cf85fed91713f9bf45a4fbf7cf1ac284"), looks := true }, kinds := [], alts := [], laidByText := true, laidKinds := [.data, .data, .data, .sentinel, .sentinel], laidTests := true, laidLooks := .later }
def LexAloneUptoCardSaid : Prop := Claim7.holds Tryd.pinned (.plain (OpenSpec.upto lexAloneSpec)) lexAloneUptoCard

/-- THE SECOND FORM's CARD OF 'legatelaw09.ReadMore'. -/
def readMoreUptoCard : Claim7 := { stood := { row := readMoreUptoRow, standIns := [], harness := (true, "8bfca8bae5d321754392bd3c451c4dc3cf85fed91713f9bf45a4fbf7cf1ac284"), looks := true }, kinds := [], alts := [], laidByText := true, laidKinds := [.data, .data, .data, .sentinel, .sentinel], laidTests := true, laidLooks := .later }
def ReadMoreUptoCardSaid : Prop := Claim7.holds Tryd.pinned (.plain (OpenSpec.upto readMoreSpec)) readMoreUptoCard

/-- THE SECOND FORM's CARD OF 'legatelaw09.ReadFront'. -/
def readFrontUptoCard : Claim7 := { stood := { row := readFrontUptoRow, standIns := [], harness := (true, "8bfca8bae5d321754392bd3c451c4dc3cf85fed91713f9bf45a4fbf7cf1ac284"), looks := true }, kinds := [], alts := [], laidByText := true, laidKinds := [.data, .data, .data, .sentinel, .sentinel], laidTests := true, laidLooks := .later }
def ReadFrontUptoCardSaid : Prop := Claim7.holds Tryd.pinned (.plain (OpenSpec.upto readFrontSpec)) readFrontUptoCard
end Rows
end Go.Proofs.YtkflnbmbkilicaaDoor
