/-
  DERIVED. GIVEN WITH THE SEED: THE CARDS: each row of YtjekdhahbkofbaaDoorRows.lean that lists a variable, with what it lists TIED to the program's text (the seventh form; the later family's looks); each row that meets fmt, with fmt's text TOLD by the authors' own Lean function (tested against real Go, not proved from fmt's source: count such statements apart). THE CARD IS WHAT COUNTS. Prove the row's statement (the work); the ties are given (YtjekdhahbkofbaaDoorTie.lean); close each card by the builder's one call (the guide's Derived/Test/ToyasCard.lean, 'card_holds'). Laid BY PROGRAM, IN A SANDBOX (cutbox-door.mjs). By AI agents, Wed Nov 11 2026. No macro, syntax, notation, axiom, sorry.
-/
import Derived.Test.YtjekdhahbkofbaaDoorRows
import GoSem.ClaimSeven
namespace Go.Proofs.YtjekdhahbkofbaaDoor
namespace Rows

/-- THE TIED CARD OF 'legatelaw10.CanonEncodes'. -/
def canonEncodesCard : Claim7 := { stood := { row := canonEncodesRow, standIns := [], harness := (true, "908e75b94120fb9d2904f2e510f5cb03afc31f523e4b8b61b9e29c46f666aae7"), looks := true }, kinds := [], alts := [], laidByText := true, laidKinds := [.data, .data, .data], laidTests := true, laidLooks := .later }
def CanonEncodesCardSaid : Prop := Claim7.holds Tryd.pinned (.plain (OpenSpec.ofChange canonEncodesSpec)) canonEncodesCard

/-- THE TIED CARD OF 'legatelaw10.CanonNames'. -/
def canonNamesCard : Claim7 := { stood := { row := canonNamesRow, standIns := [], harness := (true, "908e75b94120fb9d2904f2e510f5cb03afc31f523e4b8b61b9e29c46f666aae7"), looks := true }, kinds := [], alts := [], laidByText := true, laidKinds := [.data, .data, .data], laidTests := true, laidLooks := .later }
def CanonNamesCardSaid : Prop := Claim7.holds Tryd.pinned (.plain (OpenSpec.ofChange canonNamesSpec)) canonNamesCard

/-- THE TIED CARD OF 'legatelaw10.CanonUnlike'. -/
def canonUnlikeCard : Claim7 := { stood := { row := canonUnlikeRow, standIns := [], harness := (true, "908e75b94120fb9d2904f2e510f5cb03afc31f523e4b8b61b9e29c46f666aae7"), looks := true }, kinds := [], alts := [], laidByText := true, laidKinds := [.data, .data, .data], laidTests := true, laidLooks := .later }
def CanonUnlikeCardSaid : Prop := Claim7.holds Tryd.pinned (.plain (OpenSpec.ofChange canonUnlikeSpec)) canonUnlikeCard

/-- THE TIED CARD OF 'legatelaw10.CanonParts'. -/
def canonPartsCard : Claim7 := { stood := { row := canonPartsRow, standIns := [], harness := (true, "908e75b94120fb9d2904f2e510f5cb03afc31f523e4b8b61b9e29c46f666aae7"), looks := true }, kinds := [], alts := [], laidByText := true, laidKinds := [.data, .data, .data], laidTests := true, laidLooks := .later }
def CanonPartsCardSaid : Prop := Claim7.holds Tryd.pinned (.plain (OpenSpec.ofChange canonPartsSpec)) canonPartsCard

/-- THE TIED CARD OF 'legatelaw10.CanonEnds'. -/
def canonEndsCard : Claim7 := { stood := { row := canonEndsRow, standIns := [], harness := (true, "908e75b94120fb9d2904f2e510f5cb03afc31f523e4b8b61b9e29c46f666aae7"), looks := true }, kinds := [], alts := [], laidByText := true, laidKinds := [.data, .data, .data], laidTests := true, laidLooks := .later }
def CanonEndsCardSaid : Prop := Claim7.holds Tryd.pinned (.plain (OpenSpec.ofChange canonEndsSpec)) canonEndsCard

/-- THE TIED CARD OF 'legatelaw06.NumReads'. -/
def numReadsCard : Claim7 := { stood := { row := numReadsRow, standIns := [], harness := (true, "908e75b94120fb9d2904f2e510f5cb03afc31f523e4b8b61b9e29c46f666aae7"), looks := true }, kinds := [], alts := [], laidByText := true, laidKinds := [.data, .data, .data, .sentinel, .sentinel], laidTests := true, laidLooks := .later }
def NumReadsCardSaid : Prop := Claim7.holds Tryd.pinned (.plain (OpenSpec.ofChange numReadsSpec)) numReadsCard

/-- THE TIED CARD OF 'legatelaw06.NumShows'. -/
def numShowsCard : Claim7 := { stood := { row := numShowsRow, standIns := [], harness := (true, "908e75b94120fb9d2904f2e510f5cb03afc31f523e4b8b61b9e29c46f666aae7"), looks := true }, kinds := [], alts := [], laidByText := true, laidKinds := [.data, .data, .data, .sentinel, .sentinel], laidTests := true, laidLooks := .later }
def NumShowsCardSaid : Prop := Claim7.holds Tryd.pinned (.plain (OpenSpec.ofChange numShowsSpec)) numShowsCard

/-- THE TIED CARD OF 'legatelaw06.NumNames'. -/
def numNamesCard : Claim7 := { stood := { row := numNamesRow, standIns := [], harness := (true, "908e75b94120fb9d2904f2e510f5cb03afc31f523e4b8b61b9e29c46f666aae7"), looks := true }, kinds := [], alts := [], laidByText := true, laidKinds := [.data, .data, .data, .sentinel, .sentinel], laidTests := true, laidLooks := .later }
def NumNamesCardSaid : Prop := Claim7.holds Tryd.pinned (.plain (OpenSpec.ofChange numNamesSpec)) numNamesCard

/-- THE TIED CARD OF 'legatelaw06.NumBack'. -/
def numBackCard : Claim7 := { stood := { row := numBackRow, standIns := [], harness := (true, "908e75b94120fb9d2904f2e510f5cb03afc31f523e4b8b61b9e29c46f666aae7"), looks := true }, kinds := [], alts := [], laidByText := true, laidKinds := [.data, .data, .data, .sentinel, .sentinel], laidTests := true, laidLooks := .later }
def NumBackCardSaid : Prop := Claim7.holds Tryd.pinned (.plain (OpenSpec.ofChange numBackSpec)) numBackCard

/-- THE TIED CARD OF 'legatelaw06.NumOrder'. -/
def numOrderCard : Claim7 := { stood := { row := numOrderRow, standIns := [], harness := (true, "908e75b94120fb9d2904f2e510f5cb03afc31f523e4b8b61b9e29c46f666aae7"), looks := true }, kinds := [], alts := [], laidByText := true, laidKinds := [.data, .data, .data, .sentinel, .sentinel], laidTests := true, laidLooks := .later }
def NumOrderCardSaid : Prop := Claim7.holds Tryd.pinned (.plain (OpenSpec.ofChange numOrderSpec)) numOrderCard

/-- THE TIED CARD OF 'legatelaw06.NumDigits'. -/
def numDigitsCard : Claim7 := { stood := { row := numDigitsRow, standIns := [], harness := (true, "908e75b94120fb9d2904f2e510f5cb03afc31f523e4b8b61b9e29c46f666aae7"), looks := true }, kinds := [], alts := [], laidByText := true, laidKinds := [.data, .data, .data, .sentinel, .sentinel], laidTests := true, laidLooks := .later }
def NumDigitsCardSaid : Prop := Claim7.holds Tryd.pinned (.plain (OpenSpec.ofChange numDigitsSpec)) numDigitsCard

/-- THE TIED CARD OF 'legatelaw06.NumOther'. -/
def numOtherCard : Claim7 := { stood := { row := numOtherRow, standIns := [], harness := (true, "908e75b94120fb9d2904f2e510f5cb03afc31f523e4b8b61b9e29c46f666aae7"), looks := true }, kinds := [], alts := [], laidByText := true, laidKinds := [.data, .data, .data, .sentinel, .sentinel], laidTests := true, laidLooks := .later }
def NumOtherCardSaid : Prop := Claim7.holds Tryd.pinned (.plain (OpenSpec.ofChange numOtherSpec)) numOtherCard

/-- THE SECOND FORM's CARD OF 'legatelaw10.CanonEncodes'. -/
def canonEncodesUptoCard : Claim7 := { stood := { row := canonEncodesUptoRow, standIns := [], harness := (true, "908e75b94120fb9d2904f2e510f5cb03afc31f523e4b8b61b9e29c46f666aae7"), looks := true }, kinds := [], alts := [], laidByText := true, laidKinds := [.data, .data, .data], laidTests := true, laidLooks := .later }
def CanonEncodesUptoCardSaid : Prop := Claim7.holds Tryd.pinned (.plain (OpenSpec.upto canonEncodesSpec)) canonEncodesUptoCard

/-- THE SECOND FORM's CARD OF 'legatelaw10.CanonNames'. -/
def canonNamesUptoCard : Claim7 := { stood := { row := canonNamesUptoRow, standIns := [], harness := (true, "908e75b94120fb9d2904f2e510f5cb03afc31f523e4b8b61b9e29c46f666aae7"), looks := true }, kinds := [], alts := [], laidByText := true, laidKinds := [.data, .data, .data], laidTests := true, laidLooks := .later }
def CanonNamesUptoCardSaid : Prop := Claim7.holds Tryd.pinned (.plain (OpenSpec.upto canonNamesSpec)) canonNamesUptoCard

/-- THE SECOND FORM's CARD OF 'legatelaw10.CanonUnlike'. -/
def canonUnlikeUptoCard : Claim7 := { stood := { row := canonUnlikeUptoRow, standIns := [], harness := (true, "908e75b94120fb9d2904f2e510f5cb03afc31f523e4b8b61b9e29c46f666aae7"), looks := true }, kinds := [], alts := [], laidByText := true, laidKinds := [.data, .data, .data], laidTests := true, laidLooks := .later }
def CanonUnlikeUptoCardSaid : Prop := Claim7.holds Tryd.pinned (.plain (OpenSpec.upto canonUnlikeSpec)) canonUnlikeUptoCard

/-- THE SECOND FORM's CARD OF 'legatelaw10.CanonParts'. -/
def canonPartsUptoCard : Claim7 := { stood := { row := canonPartsUptoRow, standIns := [], harness := (true, "908e75b94120fb9d2904f2e510f5cb03afc31f523e4b8b61b9e29c46f666aae7"), looks := true }, kinds := [], alts := [], laidByText := true, laidKinds := [.data, .data, .data], laidTests := true, laidLooks := .later }
def CanonPartsUptoCardSaid : Prop := Claim7.holds Tryd.pinned (.plain (OpenSpec.upto canonPartsSpec)) canonPartsUptoCard

/-- THE SECOND FORM's CARD OF 'legatelaw10.CanonEnds'. -/
def canonEndsUptoCard : Claim7 := { stood := { row := canonEndsUptoRow, standIns := [], harness := (true, "908e75b94120fb9d2904f2e510f5cb03afc31f523e4b8b61b9e29c46f666aae7"), looks := true }, kinds := [], alts := [], laidByText := true, laidKinds := [.data, .data, .data], laidTests := true, laidLooks := .later }
def CanonEndsUptoCardSaid : Prop := Claim7.holds Tryd.pinned (.plain (OpenSpec.upto canonEndsSpec)) canonEndsUptoCard

/-- THE SECOND FORM's CARD OF 'legatelaw06.NumReads'. -/
def numReadsUptoCard : Claim7 := { stood := { row := numReadsUptoRow, standIns := [], harness := (true, "908e75b94120fb9d2904f2e510f5cb03afc31f523e4b8b61b9e29c46f666aae7"), looks := true }, kinds := [], alts := [], laidByText := true, laidKinds := [.data, .data, .data, .sentinel, .sentinel], laidTests := true, laidLooks := .later }
def NumReadsUptoCardSaid : Prop := Claim7.holds Tryd.pinned (.plain (OpenSpec.upto numReadsSpec)) numReadsUptoCard

/-- THE SECOND FORM's CARD OF 'legatelaw06.NumShows'. -/
def numShowsUptoCard : Claim7 := { stood := { row := numShowsUptoRow, standIns := [], harness := (true, "908e75b94120fb9d2904f2e510f5cb03afc31f523e4b8b61b9e29c46f666aae7"), looks := true }, kinds := [], alts := [], laidByText := true, laidKinds := [.data, .data, .data, .sentinel, .sentinel], laidTests := true, laidLooks := .later }
def NumShowsUptoCardSaid : Prop := Claim7.holds Tryd.pinned (.plain (OpenSpec.upto numShowsSpec)) numShowsUptoCard

/-- THE SECOND FORM's CARD OF 'legatelaw06.NumNames'. -/
def numNamesUptoCard : Claim7 := { stood := { row := numNamesUptoRow, standIns := [], harness := (true, "908e75b94120fb9d2904f2e510f5cb03afc31f523e4b8b61b9e29c46f666aae7"), looks := true }, kinds := [], alts := [], laidByText := true, laidKinds := [.data, .data, .data, .sentinel, .sentinel], laidTests := true, laidLooks := .later }
def NumNamesUptoCardSaid : Prop := Claim7.holds Tryd.pinned (.plain (OpenSpec.upto numNamesSpec)) numNamesUptoCard

/-- THE SECOND FORM's CARD OF 'legatelaw06.NumBack'. -/
def numBackUptoCard : Claim7 := { stood := { row := numBackUptoRow, standIns := [], harness := (true, "908e75b94120fb9d2904f2e510f5cb03afc31f523e4b8b61b9e29c46f666aae7"), looks := true }, kinds := [], alts := [], laidByText := true, laidKinds := [.data, .data, .data, .sentinel, .sentinel], laidTests := true, laidLooks := .later }
def NumBackUptoCardSaid : Prop := Claim7.holds Tryd.pinned (.plain (OpenSpec.upto numBackSpec)) numBackUptoCard

/-- THE SECOND FORM's CARD OF 'legatelaw06.NumOrder'. -/
def numOrderUptoCard : Claim7 := { stood := { row := numOrderUptoRow, standIns := [], harness := (true, "908e75b94120fb9d2904f2e510f5cb03afc31f523e4b8b61b9e29c46f666aae7"), looks := true }, kinds := [], alts := [], laidByText := true, laidKinds := [.data, .data, .data, .sentinel, .sentinel], laidTests := true, laidLooks := .later }
def NumOrderUptoCardSaid : Prop := Claim7.holds Tryd.pinned (.plain (OpenSpec.upto numOrderSpec)) numOrderUptoCard

/-- THE SECOND FORM's CARD OF 'legatelaw06.NumDigits'. -/
def numDigitsUptoCard : Claim7 := { stood := { row := numDigitsUptoRow, standIns := [], harness := (true, "908e75b94120fb9d2904f2e510f5cb03afc31f523e4b8b61b9e29c46f666aae7"), looks := true }, kinds := [], alts := [], laidByText := true, laidKinds := [.data, .data, .data, .sentinel, .sentinel], laidTests := true, laidLooks := .later }
def NumDigitsUptoCardSaid : Prop := Claim7.holds Tryd.pinned (.plain (OpenSpec.upto numDigitsSpec)) numDigitsUptoCard

/-- THE SECOND FORM's CARD OF 'legatelaw06.NumOther'. -/
def numOtherUptoCard : Claim7 := { stood := { row := numOtherUptoRow, standIns := [], harness := (true, "908e75b94120fb9d2904f2e510f5cb03afc31f523e4b8b61b9e29c46f666aae7"), looks := true }, kinds := [], alts := [], laidByText := true, laidKinds := [.data, .data, .data, .sentinel, .sentinel], laidTests := true, laidLooks := .later }
def NumOtherUptoCardSaid : Prop := Claim7.holds Tryd.pinned (.plain (OpenSpec.upto numOtherSpec)) numOtherUptoCard
end Rows
end Go.Proofs.YtjekdhahbkofbaaDoor
