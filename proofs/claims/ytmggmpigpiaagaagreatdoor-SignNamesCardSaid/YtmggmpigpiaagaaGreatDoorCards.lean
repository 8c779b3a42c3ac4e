/-
  DERIVED. GIVEN WITH THE SEED: THE CARDS: each row of YtmggmpigpiaagaaGreatDoorRows.lean that lists a variable, with what it lists TIED to the program's text (the seventh form; the later family's looks); each row that meets fmt, with fmt's text TOLD by the authors' own Lean function (tested against real Go, not proved from fmt's source: count such statements apart). THE CARD IS WHAT COUNTS. Prove the row's statement (the work); the ties are given (YtmggmpigpiaagaaGreatDoorTie.lean); close each card by the builder's one call (the guide's Derived/Test/ToyasCard.lean, 'card_holds'). Laid BY PROGRAM, IN A SANDBOX (cutbox-door.mjs). By AI agents, Wed Nov 11 2026. No macro, syntax, notation, axiom, sorry.
-/
import Derived.Test.YtmggmpigpiaagaaGreatDoorRows
import GoSem.ClaimSeven
namespace Go.Proofs.YtmggmpigpiaagaaGreatDoor
namespace Rows

/-- THE TIED CARD OF 'legatelaw16.SignReads'. -/
def signReadsCard : Claim7 := { stood := { row := signReadsRow, standIns := [], harness := (true, "429f4c11f164cbea2d91fd3bf0f275b783e7ffca0e0340efa88b3345a4bd81e0"), looks := true }, kinds := [], alts := [], laidByText := true, laidKinds := [.data, .data, .data, .sentinel, .sentinel], laidTests := true, laidLooks := .later }
def SignReadsCardSaid : Prop := Claim7.holds Tryz.pinned (.plain (OpenSpec.ofChange signReadsSpec)) signReadsCard

/-- THE TIED CARD OF 'legatelaw16.SignBlanks'. -/
def signBlanksCard : Claim7 := { stood := { row := signBlanksRow, standIns := [], harness := (true, "429f4c11f164cbea2d91fd3bf0f275b783e7ffca0e0340efa88b3345a4bd81e0"), looks := true }, kinds := [], alts := [], laidByText := true, laidKinds := [.data, .data, .data, .sentinel, .sentinel], laidTests := true, laidLooks := .later }
def SignBlanksCardSaid : Prop := Claim7.holds Tryz.pinned (.plain (OpenSpec.ofChange signBlanksSpec)) signBlanksCard

/-- THE TIED CARD OF 'legatelaw16.SignNames'. -/
def signNamesCard : Claim7 := { stood := { row := signNamesRow, standIns := [], harness := (true, "429f4c11f164cbea2d91fd3bf0f275b783e7ffca0e0340efa88b3345a4bd81e0"), looks := true }, kinds := [], alts := [], laidByText := true, laidKinds := [.data, .data, .data, .sentinel, .sentinel], laidTests := true, laidLooks := .later }
def SignNamesCardSaid : Prop := Claim7.holds Tryz.pinned (.plain (OpenSpec.ofChange signNamesSpec)) signNamesCard

/-- THE SECOND FORM's CARD OF 'legatelaw16.SignReads'. -/
def signReadsUptoCard : Claim7 := { stood := { row := signReadsUptoRow, standIns := [], harness := (true, "429f4c11f164cbea2d91fd3bf0f275b783e7ffca0e0340efa88b3345a4bd81e0"), looks := true }, kinds := [], alts := [], laidByText := true, laidKinds := [.data, .data, .data, .sentinel, .sentinel], laidTests := true, laidLooks := .later }
def SignReadsUptoCardSaid : Prop := Claim7.holds Tryz.pinned (.plain (OpenSpec.upto signReadsSpec)) signReadsUptoCard

/-- THE SECOND FORM's CARD OF 'legatelaw16.SignBlanks'. -/
def signBlanksUptoCard : Claim7 := { stood := { row := signBlanksUptoRow, standIns := [], harness := (true, "429f4c11f164cbea2d91fd3bf0f275b783e7ffca0e0340efa88b3345a4bd81e0"), looks := true }, kinds := [], alts := [], laidByText := true, laidKinds := [.data, .data, .data, .sentinel, .sentinel], laidTests := true, laidLooks := .later }
def SignBlanksUptoCardSaid : Prop := Claim7.holds Tryz.pinned (.plain (OpenSpec.upto signBlanksSpec)) signBlanksUptoCard

/-- THE SECOND FORM's CARD OF 'legatelaw16.SignNames'. -/
def signNamesUptoCard : Claim7 := { stood := { row := signNamesUptoRow, standIns := [], harness := (true, "429f4c11f164cbea2d91fd3bf0f275b783e7ffca0e0340efa88b3345a4bd81e0"), looks := true }, kinds := [], alts := [], laidByText := true, laidKinds := [.data, .data, .data, .sentinel, .sentinel], laidTests := true, laidLooks := .later }
def SignNamesUptoCardSaid : Prop := Claim7.holds Tryz.pinned (.plain (OpenSpec.upto signNamesSpec)) signNamesUptoCard
end Rows
end Go.Proofs.YtmggmpigpiaagaaGreatDoor
