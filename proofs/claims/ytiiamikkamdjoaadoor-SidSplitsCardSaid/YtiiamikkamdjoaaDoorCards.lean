/-
  DERIVED. GIVEN WITH THE SEED: THE CARDS: each row of YtiiamikkamdjoaaDoorRows.lean that lists a variable, with what it lists TIED to the program's text (the seventh form; the later family's looks); each row that meets fmt, with fmt's text TOLD by the authors' own Lean function (tested against real Go, not proved from fmt's source: count such statements apart). THE CARD IS WHAT COUNTS. Prove the row's statement (the work); the ties are given (YtiiamikkamdjoaaDoorTie.lean); close each card by the builder's one call (the guide's Derived/Test/ToyasCard.lean, 'card_holds'). Laid BY PROGRAM, IN A SANDBOX (cutbox-door.mjs). By AI agents, Wed Nov 11 2026. No macro, syntax, notation, axiom, sorry.
-/
import Derived.Test.YtiiamikkamdjoaaDoorRows
import GoSem.ClaimSeven
namespace Go.Proofs.YtiiamikkamdjoaaDoor
namespace Rows

/-- THE TIED CARD OF 'harrierlaw31.DropsCounts'. -/
def dropsCountsCard : Claim7 := { stood := { row := dropsCountsRow, standIns := [], harness := (true, "6e8940a2260ab82440c9c5141d4becd521356d0e4abe2ef0de6ef9872ac16c97"), looks := false }, kinds := [], alts := [], laidByText := true, laidKinds := [.data, .data, .data], laidTests := true, laidLooks := .later }
def DropsCountsCardSaid : Prop := Claim7.holds Tryd.pinned (.plain (OpenSpec.ofChange dropsCountsSpec)) dropsCountsCard

/-- THE TIED CARD OF 'harrierlaw31.DropsNames'. -/
def dropsNamesCard : Claim7 := { stood := { row := dropsNamesRow, standIns := [], harness := (true, "6e8940a2260ab82440c9c5141d4becd521356d0e4abe2ef0de6ef9872ac16c97"), looks := false }, kinds := [], alts := [], laidByText := true, laidKinds := [.data, .data, .data], laidTests := true, laidLooks := .later }
def DropsNamesCardSaid : Prop := Claim7.holds Tryd.pinned (.plain (OpenSpec.ofChange dropsNamesSpec)) dropsNamesCard

/-- THE TIED CARD OF 'harrierlaw12.SidSplits'. -/
def sidSplitsCard : Claim7 := { stood := { row := sidSplitsRow, standIns := [], harness := (true, "6e8940a2260ab82440c9c5141d4becd521356d0e4abe2ef0de6ef9872ac16c97"), looks := false }, kinds := [], alts := [], laidByText := true, laidKinds := [.data, .data, .data], laidTests := true, laidLooks := .later }
def SidSplitsCardSaid : Prop := Claim7.holds Tryd.pinned (.plain (OpenSpec.ofChange sidSplitsSpec)) sidSplitsCard

/-- THE TIED CARD OF 'harrierlaw12.SidBack'. -/
def sidBackCard : Claim7 := { stood := { row := sidBackRow, standIns := [], harness := (true, "6e8940a2260ab82440c9c5141d4becd521356d0e4abe2ef0de6ef9872ac16c97"), looks := false }, kinds := [], alts := [], laidByText := true, laidKinds := [.data, .data, .data], laidTests := true, laidLooks := .later }
def SidBackCardSaid : Prop := Claim7.holds Tryd.pinned (.plain (OpenSpec.ofChange sidBackSpec)) sidBackCard

/-- THE TIED CARD OF 'harrierlaw12.SidMakes'. -/
def sidMakesCard : Claim7 := { stood := { row := sidMakesRow, standIns := [], harness := (true, "6e8940a2260ab82440c9c5141d4becd521356d0e4abe2ef0de6ef9872ac16c97"), looks := false }, kinds := [], alts := [], laidByText := true, laidKinds := [.data, .data, .data], laidTests := true, laidLooks := .later }
def SidMakesCardSaid : Prop := Claim7.holds Tryd.pinned (.plain (OpenSpec.ofChange sidMakesSpec)) sidMakesCard

/-- THE TIED CARD OF 'harrierlaw14.FlowTells'. -/
def flowTellsCard : Claim7 := { stood := { row := flowTellsRow, standIns := [], harness := (true, "6e8940a2260ab82440c9c5141d4becd521356d0e4abe2ef0de6ef9872ac16c97"), looks := false }, kinds := [], alts := [], laidByText := true, laidKinds := [.data, .data, .data], laidTests := true, laidLooks := .later }
def FlowTellsCardSaid : Prop := Claim7.holds Tryd.pinned (.plain (OpenSpec.ofChange flowTellsSpec)) flowTellsCard

/-- THE TIED CARD OF 'harrierlaw14.FlowApart'. -/
def flowApartCard : Claim7 := { stood := { row := flowApartRow, standIns := [], harness := (true, "6e8940a2260ab82440c9c5141d4becd521356d0e4abe2ef0de6ef9872ac16c97"), looks := false }, kinds := [], alts := [], laidByText := true, laidKinds := [.data, .data, .data], laidTests := true, laidLooks := .later }
def FlowApartCardSaid : Prop := Claim7.holds Tryd.pinned (.plain (OpenSpec.ofChange flowApartSpec)) flowApartCard

/-- THE TIED CARD OF 'harrierlaw03.AddrTexts'. -/
def addrTextsCard : Claim7 := { stood := { row := addrTextsRow, standIns := [], harness := (true, "6e8940a2260ab82440c9c5141d4becd521356d0e4abe2ef0de6ef9872ac16c97"), looks := false }, kinds := [], alts := [], laidByText := true, laidKinds := [.data, .pinned], laidTests := true, laidLooks := .later }
def AddrTextsCardSaid : Prop := Claim7.holds Tryd.pinned (.plain (OpenSpec.ofChange addrTextsSpec)) addrTextsCard

/-- THE TIED CARD OF 'harrierlaw03.AddrReads'. -/
def addrReadsCard : Claim7 := { stood := { row := addrReadsRow, standIns := [], harness := (true, "6e8940a2260ab82440c9c5141d4becd521356d0e4abe2ef0de6ef9872ac16c97"), looks := false }, kinds := [], alts := [], laidByText := true, laidKinds := [.data, .pinned], laidTests := true, laidLooks := .later }
def AddrReadsCardSaid : Prop := Claim7.holds Tryd.pinned (.plain (OpenSpec.ofChange addrReadsSpec)) addrReadsCard

/-- THE TIED CARD OF 'harrierlaw03.AddrBack'. -/
def addrBackCard : Claim7 := { stood := { row := addrBackRow, standIns := [], harness := (true, "6e8940a2260ab82440c9c5141d4becd521356d0e4abe2ef0de6ef9872ac16c97"), looks := false }, kinds := [], alts := [], laidByText := true, laidKinds := [.data, .pinned], laidTests := true, laidLooks := .later }
def AddrBackCardSaid : Prop := Claim7.holds Tryd.pinned (.plain (OpenSpec.ofChange addrBackSpec)) addrBackCard

/-- THE TIED CARD OF 'harrierlaw03.AddrNets'. -/
def addrNetsCard : Claim7 := { stood := { row := addrNetsRow, standIns := [], harness := (true, "6e8940a2260ab82440c9c5141d4becd521356d0e4abe2ef0de6ef9872ac16c97"), looks := false }, kinds := [], alts := [], laidByText := true, laidKinds := [.data, .pinned], laidTests := true, laidLooks := .later }
def AddrNetsCardSaid : Prop := Claim7.holds Tryd.pinned (.plain (OpenSpec.ofChange addrNetsSpec)) addrNetsCard

/-- THE SECOND FORM's CARD OF 'harrierlaw31.DropsCounts'. -/
def dropsCountsUptoCard : Claim7 := { stood := { row := dropsCountsUptoRow, standIns := [], harness := (true, "6e8940a2260ab82440c9c5141d4becd521356d0e4abe2ef0de6ef9872ac16c97"), looks := false }, kinds := [], alts := [], laidByText := true, laidKinds := [.data, .data, .data], laidTests := true, laidLooks := .later }
def DropsCountsUptoCardSaid : Prop := Claim7.holds Tryd.pinned (.plain (OpenSpec.upto dropsCountsSpec)) dropsCountsUptoCard

/-- THE SECOND FORM's CARD OF 'harrierlaw31.DropsNames'. -/
def dropsNamesUptoCard : Claim7 := { stood := { row := dropsNamesUptoRow, standIns := [], harness := (true, "6e8940a2260ab82440c9c5141d4becd521356d0e4abe2ef0de6ef9872ac16c97"), looks := false }, kinds := [], alts := [], laidByText := true, laidKinds := [.data, .data, .data], laidTests := true, laidLooks := .later }
def DropsNamesUptoCardSaid : Prop := Claim7.holds Tryd.pinned (.plain (OpenSpec.upto dropsNamesSpec)) dropsNamesUptoCard

/-- THE SECOND FORM's CARD OF 'harrierlaw12.SidSplits'. -/
def sidSplitsUptoCard : Claim7 := { stood := { row := sidSplitsUptoRow, standIns := [], harness := (true, "6e8940a2260ab82440c9c5141d4becd521356d0e4abe2ef0de6ef9872ac16c97"), looks := false }, kinds := [], alts := [], laidByText := true, laidKinds := [.data, .data, .data], laidTests := true, laidLooks := .later }
def SidSplitsUptoCardSaid : Prop := Claim7.holds Tryd.pinned (.plain (OpenSpec.upto sidSplitsSpec)) sidSplitsUptoCard

/-- THE SECOND FORM's CARD OF 'harrierlaw12.SidBack'. -/
def sidBackUptoCard : Claim7 := { stood := { row := sidBackUptoRow, standIns := [], harness := (true, "6e8940a2260ab82440c9c5141d4becd521356d0e4abe2ef0de6ef9872ac16c97"), looks := false }, kinds := [], alts := [], laidByText := true, laidKinds := [.data, .data, .data], laidTests := true, laidLooks := .later }
def SidBackUptoCardSaid : Prop := Claim7.holds Tryd.pinned (.plain (OpenSpec.upto sidBackSpec)) sidBackUptoCard

/-- THE SECOND FORM's CARD OF 'harrierlaw12.SidMakes'. -/
def sidMakesUptoCard : Claim7 := { stood := { row := sidMakesUptoRow, standIns := [], harness := (true, "6e8940a2260ab82440c9c5141d4becd521356d0e4abe2ef0de6ef9872ac16c97"), looks := false }, kinds := [], alts := [], laidByText := true, laidKinds := [.data, .data, .data], laidTests := true, laidLooks := .later }
def SidMakesUptoCardSaid : Prop := Claim7.holds Tryd.pinned (.plain (OpenSpec.upto sidMakesSpec)) sidMakesUptoCard

/-- THE SECOND FORM's CARD OF 'harrierlaw14.FlowTells'. -/
def flowTellsUptoCard : Claim7 := { stood := { row := flowTellsUptoRow, standIns := [], harness := (true, "6e8940a2260ab82440c9c5141d4becd521356d0e4abe2ef0de6ef9872ac16c97"), looks := false }, kinds := [], alts := [], laidByText := true, laidKinds := [.data, .data, .data], laidTests := true, laidLooks := .later }
def FlowTellsUptoCardSaid : Prop := Claim7.holds Tryd.pinned (.plain (OpenSpec.upto flowTellsSpec)) flowTellsUptoCard

/-- THE SECOND FORM's CARD OF 'harrierlaw14.FlowApart'. -/
def flowApartUptoCard : Claim7 := { stood := { row := flowApartUptoRow, standIns := [], harness := (true, "6e8940a2260ab82440c9c5141d4becd521356d0e4abe2ef0de6ef9872ac16c97"), looks := false }, kinds := [], alts := [], laidByText := true, laidKinds := [.data, .data, .data], laidTests := true, laidLooks := .later }
def FlowApartUptoCardSaid : Prop := Claim7.holds Tryd.pinned (.plain (OpenSpec.upto flowApartSpec)) flowApartUptoCard

/-- THE SECOND FORM's CARD OF 'harrierlaw03.AddrTexts'. -/
def addrTextsUptoCard : Claim7 := { stood := { row := addrTextsUptoRow, standIns := [], harness := (true, "6e8940a2260ab82440c9c5141d4becd521356d0e4abe2ef0de6ef9872ac16c97"), looks := false }, kinds := [], alts := [], laidByText := true, laidKinds := [.data, .pinned], laidTests := true, laidLooks := .later }
def AddrTextsUptoCardSaid : Prop := Claim7.holds Tryd.pinned (.plain (OpenSpec.upto addrTextsSpec)) addrTextsUptoCard

/-- THE SECOND FORM's CARD OF 'harrierlaw03.AddrReads'. -/
def addrReadsUptoCard : Claim7 := { stood := { row := addrReadsUptoRow, standIns := [], harness := (true, "6e8940a2260ab82440c9c5141d4becd521356d0e4abe2ef0de6ef9872ac16c97"), looks := false }, kinds := [], alts := [], laidByText := true, laidKinds := [.data, .pinned], laidTests := true, laidLooks := .later }
def AddrReadsUptoCardSaid : Prop := Claim7.holds Tryd.pinned (.plain (OpenSpec.upto addrReadsSpec)) addrReadsUptoCard

/-- THE SECOND FORM's CARD OF 'harrierlaw03.AddrBack'. -/
def addrBackUptoCard : Claim7 := { stood := { row := addrBackUptoRow, standIns := [], harness := (true, "6e8940a2260ab82440c9c5141d4becd521356d0e4abe2ef0de6ef9872ac16c97"), looks := false }, kinds := [], alts := [], laidByText := true, laidKinds := [.data, .pinned], laidTests := true, laidLooks := .later }
def AddrBackUptoCardSaid : Prop := Claim7.holds Tryd.pinned (.plain (OpenSpec.upto addrBackSpec)) addrBackUptoCard

/-- THE SECOND FORM's CARD OF 'harrierlaw03.AddrNets'. -/
def addrNetsUptoCard : Claim7 := { stood := { row := addrNetsUptoRow, standIns := [], harness := (true, "6e8940a2260ab82440c9c5141d4becd521356d0e4abe2ef0de6ef9872ac16c97"), looks := false }, kinds := [], alts := [], laidByText := true, laidKinds := [.data, .pinned], laidTests := true, laidLooks := .later }
def AddrNetsUptoCardSaid : Prop := Claim7.holds Tryd.pinned (.plain (OpenSpec.upto addrNetsSpec)) addrNetsUptoCard
end Rows
end Go.Proofs.YtiiamikkamdjoaaDoor
