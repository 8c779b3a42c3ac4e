/-
  DERIVED. GIVEN WITH THE SEED: THE CARDS: each row of YtopepakencpegaaGreatDoorRows.lean that lists a variable, with what it lists TIED to the program's text (the seventh form; the later family's looks); each row that meets fmt, with fmt's text TOLD by the authors' own Lean function (tested against real Go, not proved from fmt's source: count such statements apart). THE CARD IS WHAT COUNTS. Prove the row's statement (the work); the ties are given (YtopepakencpegaaGreatDoorTie.lean); close each card by the builder's one call (the guide's Derived/Test/ToyasCard.lean, 'card_holds'). Laid BY PROGRAM, IN A SANDBOX (cutbox-door.mjs). By AI agents, Wed Nov 11 2026. No macro, syntax, notation, axiom, sorry.
-/
import Derived.Test.YtopepakencpegaaGreatDoorRows
import GoSem.ClaimSeven
namespace Go.Proofs.YtopepakencpegaaGreatDoor
namespace Rows

/-- THE TIED CARD OF 'legatelaw25.ChartNames'. -/
def chartNamesCard : Claim7 := { stood := { row := chartNamesRow, standIns := [], harness := (true, "7c05679601ca0cc702120bc27baa90c3e7f0c9c470a96b07e38ad43c222956fe"), looks := true }, kinds := [], alts := [], laidByText := true, laidKinds := [.data, .data, .data, .sentinel, .sentinel], laidTests := true, laidLooks := .later }
def ChartNamesCardSaid : Prop := Claim7.holds Tryz.pinned (.plain (OpenSpec.ofChange chartNamesSpec)) chartNamesCard

/-- THE TIED CARD OF 'legatelaw25.ChartPath'. -/
def chartPathCard : Claim7 := { stood := { row := chartPathRow, standIns := [], harness := (true, "7c05679601ca0cc702120bc27baa90c3e7f0c9c470a96b07e38ad43c222956fe"), looks := true }, kinds := [], alts := [], laidByText := true, laidKinds := [.data, .data, .data, .sentinel, .sentinel], laidTests := true, laidLooks := .later }
def ChartPathCardSaid : Prop := Claim7.holds Tryz.pinned (.plain (OpenSpec.ofChange chartPathSpec)) chartPathCard

/-- THE TIED CARD OF 'legatelaw25.ChartBehind'. -/
def chartBehindCard : Claim7 := { stood := { row := chartBehindRow, standIns := [], harness := (true, "7c05679601ca0cc702120bc27baa90c3e7f0c9c470a96b07e38ad43c222956fe"), looks := true }, kinds := [], alts := [], laidByText := true, laidKinds := [.data, .data, .data, .sentinel, .sentinel], laidTests := true, laidLooks := .later }
def ChartBehindCardSaid : Prop := Claim7.holds Tryz.pinned (.plain (OpenSpec.ofChange chartBehindSpec)) chartBehindCard

/-- THE TIED CARD OF 'legatelaw25.ChartRepo'. -/
def chartRepoCard : Claim7 := { stood := { row := chartRepoRow, standIns := [], harness := (true, "7c05679601ca0cc702120bc27baa90c3e7f0c9c470a96b07e38ad43c222956fe"), looks := true }, kinds := [], alts := [], laidByText := true, laidKinds := [.data, .data, .data, .sentinel, .sentinel], laidTests := true, laidLooks := .later }
def ChartRepoCardSaid : Prop := Claim7.holds Tryz.pinned (.plain (OpenSpec.ofChange chartRepoSpec)) chartRepoCard

/-- THE TIED CARD OF 'legatelaw25.ChartApart'. -/
def chartApartCard : Claim7 := { stood := { row := chartApartRow, standIns := [], harness := (true, "7c05679601ca0cc702120bc27baa90c3e7f0c9c470a96b07e38ad43c222956fe"), looks := true }, kinds := [], alts := [], laidByText := true, laidKinds := [.data, .data, .data, .sentinel, .sentinel], laidTests := true, laidLooks := .later }
def ChartApartCardSaid : Prop := Claim7.holds Tryz.pinned (.plain (OpenSpec.ofChange chartApartSpec)) chartApartCard

/-- THE SECOND FORM's CARD OF 'legatelaw25.ChartNames'. -/
def chartNamesUptoCard : Claim7 := { stood := { row := chartNamesUptoRow, standIns := [], harness := (true, "7c05679601ca0cc702120bc27baa90c3e7f0c9c470a96b07e38ad43c222956fe"), looks := true }, kinds := [], alts := [], laidByText := true, laidKinds := [.data, .data, .data, .sentinel, .sentinel], laidTests := true, laidLooks := .later }
def ChartNamesUptoCardSaid : Prop := Claim7.holds Tryz.pinned (.plain (OpenSpec.upto chartNamesSpec)) chartNamesUptoCard

/-- THE SECOND FORM's CARD OF 'legatelaw25.ChartPath'. -/
def chartPathUptoCard : Claim7 := { stood := { row := chartPathUptoRow, standIns := [], harness := (true, "7c05679601ca0cc702120bc27baa90c3e7f0c9c470a96b07e38ad43c222956fe"), looks := true }, kinds := [], alts := [], laidByText := true, laidKinds := [.data, .data, .data, .sentinel, .sentinel], laidTests := true, laidLooks := .later }
def ChartPathUptoCardSaid : Prop := Claim7.holds Tryz.pinned (.plain (OpenSpec.upto chartPathSpec)) chartPathUptoCard

/-- THE SECOND FORM's CARD OF 'legatelaw25.ChartBehind'. -/
def chartBehindUptoCard : Claim7 := { stood := { row := chartBehindUptoRow, standIns := [], harness := (true, "7c05679601ca0cc702120bc27baa90c3e7f0c9c470a96b07e38ad43c222956fe"), looks := true }, kinds := [], alts := [], laidByText := true, laidKinds := [.data, .data, .data, .sentinel, .sentinel], laidTests := true, laidLooks := .later }
def ChartBehindUptoCardSaid : Prop := Claim7.holds Tryz.pinned (.plain (OpenSpec.upto chartBehindSpec)) chartBehindUptoCard

/-- THE SECOND FORM's CARD OF 'legatelaw25.ChartRepo'. -/
def chartRepoUptoCard : Claim7 := { stood := { row := chartRepoUptoRow, standIns := [], harness := (true, "7c05679601ca0cc702120bc27baa90c3e7f0c9c470a96b07e38ad43c222956fe"), looks := true }, kinds := [], alts := [], laidByText := true, laidKinds := [.data, .data, .data, .sentinel, .sentinel], laidTests := true, laidLooks := .later }
def ChartRepoUptoCardSaid : Prop := Claim7.holds Tryz.pinned (.plain (OpenSpec.upto chartRepoSpec)) chartRepoUptoCard

/-- THE SECOND FORM's CARD OF 'legatelaw25.ChartApart'. -/
def chartApartUptoCard : Claim7 := { stood := { row := chartApartUptoRow, standIns := [], harness := (true, "7c05679601ca0cc702120bc27baa90c3e7f0c9c470a96b07e38ad43c222956fe"), looks := true }, kinds := [], alts := [], laidByText := true, laidKinds := [.data, .data, .data, .sentinel, .sentinel], laidTests := true, laidLooks := .later }
def ChartApartUptoCardSaid : Prop := Claim7.holds Tryz.pinned (.plain (OpenSpec.upto chartApartSpec)) chartApartUptoCard
end Rows
end Go.Proofs.YtopepakencpegaaGreatDoor
