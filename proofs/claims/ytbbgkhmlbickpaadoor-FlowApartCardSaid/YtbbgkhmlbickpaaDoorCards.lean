/-
  DERIVED. GIVEN WITH THE SEED: THE CARDS: each row of YtbbgkhmlbickpaaDoorRows.lean that lists a variable, with what it lists TIED to the program's text (the seventh form; the later family's looks); each row that meets fmt, with fmt's text TOLD by the authors' own Lean function (tested against real Go, not proved from fmt's source: count such statements apart). THE CARD IS WHAT COUNTS. Prove the row's statement (the work); the ties are given (YtbbgkhmlbickpaaDoorTie.lean); close each card by the builder's one call (the guide's Derived/Test/ToyasCard.lean, 'card_holds'). Laid BY PROGRAM, IN A SANDBOX (cutbox-door.mjs). By AI agents, Wed Nov 11 2026. No macro, syntax, notation, axiom, sorry.
-/
import Derived.Test.YtbbgkhmlbickpaaDoorRows
import GoSem.ClaimSeven
namespace Go.Proofs.YtbbgkhmlbickpaaDoor
namespace Rows

/-- THE TIED CARD OF 'harrierlaw31.DropsCounts'. -/
def dropsCountsCard : Claim7 := { stood := { row := dropsCountsRow, standIns := [], harness := (true, "a3fbcfe4e627bbbd41b6d555873e932424d975716239329bd81899823655b3d7"), looks := false }, kinds := [], alts := [], laidByText := true, laidKinds := [.data, .data, .data], laidTests := true, laidLooks := .later }
def DropsCountsCardSaid : Prop := Claim7.holds Tryd.pinned (.plain (OpenSpec.ofChange dropsCountsSpec)) dropsCountsCard

/-- THE TIED CARD OF 'harrierlaw31.DropsNames'. -/
def dropsNamesCard : Claim7 := { stood := { row := dropsNamesRow, standIns := [], harness := (true, "a3fbcfe4e627bbbd41b6d555873e932424d975716239329bd81899823655b3d7"), looks := false }, kinds := [], alts := [], laidByText := true, laidKinds := [.data, .data, .data], laidTests := true, laidLooks := .later }
def DropsNamesCardSaid : Prop := Claim7.holds Tryd.pinned (.plain (OpenSpec.ofChange dropsNamesSpec)) dropsNamesCard

/-- THE TIED CARD OF 'harrierlaw12.SidMakes'. -/
def sidMakesCard : Claim7 := { stood := { row := sidMakesRow, standIns := [], harness := (true, "a3fbcfe4e627bbbd41b6d555873e932424d975716239329bd81899823655b3d7"), looks := false }, kinds := [], alts := [], laidByText := true, laidKinds := [.data, .data, .data], laidTests := true, laidLooks := .later }
def SidMakesCardSaid : Prop := Claim7.holds Tryd.pinned (.plain (OpenSpec.ofChange sidMakesSpec)) sidMakesCard

/-- THE TIED CARD OF 'harrierlaw14.FlowTells'. -/
def flowTellsCard : Claim7 := { stood := { row := flowTellsRow, standIns := [], harness := (true, "a3fbcfe4e627bbbd41b6d555873e932424d975716239329bd81899823655b3d7"), looks := false }, kinds := [], alts := [], laidByText := true, laidKinds := [.data, .data, .data], laidTests := true, laidLooks := .later }
def FlowTellsCardSaid : Prop := Claim7.holds Tryd.pinned (.plain (OpenSpec.ofChange flowTellsSpec)) flowTellsCard

/-- THE TIED CARD OF 'harrierlaw14.FlowApart'. -/
def flowApartCard : Claim7 := { stood := { row := flowApartRow, standIns := [], harness := (true, "a3fbcfe4e627bbbd41b6d555873e932424d975716239329bd81899823655b3d7"), looks := false }, kinds := [], alts := [], laidByText := true, laidKinds := [.data, .data, .data], laidTests := true, laidLooks := .later }
def FlowApartCardSaid : Prop := Claim7.holds Tryd.pinned (.plain (OpenSpec.ofChange flowApartSpec)) flowApartCard

/-- THE TIED CARD OF 'harrierlaw03.AddrTexts'. -/
def addrTextsCard : Claim7 := { stood := { row := addrTextsRow, standIns := [], harness := (true, "a3fbcfe4e627bbbd41b6d555873e932424d975716239329bd81899823655b3d7"), looks := false }, kinds := [], alts := [], laidByText := true, laidKinds := [.data, .pinned], laidTests := true, laidLooks := .later }
def AddrTextsCardSaid : Prop := Claim7.holds Tryd.pinned (.plain (OpenSpec.ofChange addrTextsSpec)) addrTextsCard

/-- THE TIED CARD OF 'harrierlaw03.AddrReads'. -/
def addrReadsCard : Claim7 := { stood := { row := addrReadsRow, standIns := [], harness := (true, "a3fbcfe4e627bbbd41b6d555873e932424d975716239329bd81899823655b3d7"), looks := false }, kinds := [], alts := [], laidByText := true, laidKinds := [.data, .pinned], laidTests := true, laidLooks := .later }
def AddrReadsCardSaid : Prop := Claim7.holds Tryd.pinned (.plain (OpenSpec.ofChange addrReadsSpec)) addrReadsCard

/-- THE TIED CARD OF 'harrierlaw03.AddrBack'. -/
def addrBackCard : Claim7 := { stood := { row := addrBackRow, standIns := [], harness := (true, "a3fbcfe4e627bbbd41b6d555873e932424d975716239329bd81899823655b3d7"), looks := false }, kinds := [], alts := [], laidByText := true, laidKinds := [.data, .pinned], laidTests := true, laidLooks := .later }
def AddrBackCardSaid : Prop := Claim7.holds Tryd.pinned (.plain (OpenSpec.ofChange addrBackSpec)) addrBackCard

/-- THE TIED CARD OF 'harrierlaw03.AddrNets'. -/
def addrNetsCard : Claim7 := { stood := { row := addrNetsRow, standIns := [], harness := (true, "a3fbcfe4e627bbbd41b6d555873e932424d975716239329bd81899823655b3d7"), looks := false }, kinds := [], alts := [], laidByText := true, laidKinds := [.data, .pinned], laidTests := true, laidLooks := .later }
def AddrNetsCardSaid : Prop := Claim7.holds Tryd.pinned (.plain (OpenSpec.ofChange addrNetsSpec)) addrNetsCard

/-- THE TIED CARD OF 'harrierlaw42.EventTexts'. -/
def eventTextsCard : Claim7 := { stood := { row := eventTextsRow, standIns := [], harness := (true, "a3fbcfe4e627bbbd41b6d555873e932424d975716239329bd81899823655b3d7"), looks := false }, kinds := [], alts := [], laidByText := true, laidKinds := [.data, .data, .data, .data, .pinned], laidTests := true, laidLooks := .later }
def EventTextsCardSaid : Prop := Claim7.holds Tryd.pinned (.plain (OpenSpec.ofChange eventTextsSpec)) eventTextsCard

/-- THE TIED CARD OF 'harrierlaw42.EventFinds'. -/
def eventFindsCard : Claim7 := { stood := { row := eventFindsRow, standIns := [], harness := (true, "a3fbcfe4e627bbbd41b6d555873e932424d975716239329bd81899823655b3d7"), looks := false }, kinds := [], alts := [], laidByText := true, laidKinds := [.data, .data, .data, .data, .pinned], laidTests := true, laidLooks := .later }
def EventFindsCardSaid : Prop := Claim7.holds Tryd.pinned (.plain (OpenSpec.ofChange eventFindsSpec)) eventFindsCard

/-- THE TIED CARD OF 'harrierlaw14.FlowOrders'. -/
def flowOrdersCard : Claim7 := { stood := { row := flowOrdersRow, standIns := [], harness := (true, "a3fbcfe4e627bbbd41b6d555873e932424d975716239329bd81899823655b3d7"), looks := false }, kinds := [], alts := [], laidByText := true, laidKinds := [.data, .data, .data], laidTests := true, laidLooks := .later }
def FlowOrdersCardSaid : Prop := Claim7.holds Tryd.pinned (.plain (OpenSpec.ofChange flowOrdersSpec)) flowOrdersCard

/-- THE SECOND FORM's CARD OF 'harrierlaw31.DropsCounts'. -/
def dropsCountsUptoCard : Claim7 := { stood := { row := dropsCountsUptoRow, standIns := [], harness := (true, "a3fbcfe4e627bbbd41b6d555873e932424d975716239329bd81899823655b3d7"), looks := false }, kinds := [], alts := [], laidByText := true, laidKinds := [.data, .data, .data], laidTests := true, laidLooks := .later }
def DropsCountsUptoCardSaid : Prop := Claim7.holds Tryd.pinned (.plain (OpenSpec.upto dropsCountsSpec)) dropsCountsUptoCard

/-- THE SECOND FORM's CARD OF 'harrierlaw31.DropsNames'. -/
def dropsNamesUptoCard : Claim7 := { stood := { row := dropsNamesUptoRow, standIns := [], harness := (true, "a3fbcfe4e627bbbd41b6d555873e932424d975716239329bd81899823655b3d7"), looks := false }, kinds := [], alts := [], laidByText := true, laidKinds := [.data, .data, .data], laidTests := true, laidLooks := .later }
def DropsNamesUptoCardSaid : Prop := Claim7.holds Tryd.pinned (.plain (OpenSpec.upto dropsNamesSpec)) dropsNamesUptoCard

/-- THE SECOND FORM's CARD OF 'harrierlaw12.SidMakes'. -/
def sidMakesUptoCard : Claim7 := { stood := { row := sidMakesUptoRow, standIns := [], harness := (true, "a3fbcfe4e627bbbd41b6d555873e932424d975716239329bd81899823655b3d7"), looks := false }, kinds := [], alts := [], laidByText := true, laidKinds := [.data, .data, .data], laidTests := true, laidLooks := .later }
def SidMakesUptoCardSaid : Prop := Claim7.holds Tryd.pinned (.plain (OpenSpec.upto sidMakesSpec)) sidMakesUptoCard

/-- THE SECOND FORM's CARD OF 'harrierlaw14.FlowTells'. -/
def flowTellsUptoCard : Claim7 := { stood := { row := flowTellsUptoRow, standIns := [], harness := (true, "a3fbcfe4e627bbbd41b6d555873e932424d975716239329bd81899823655b3d7"), looks := false }, kinds := [], alts := [], laidByText := true, laidKinds := [.data, .data, .data], laidTests := true, laidLooks := .later }
def FlowTellsUptoCardSaid : Prop := Claim7.holds Tryd.pinned (.plain (OpenSpec.upto flowTellsSpec)) flowTellsUptoCard

/-- THE SECOND FORM's CARD OF 'harrierlaw14.FlowApart'. -/
def flowApartUptoCard : Claim7 := { stood := { row := flowApartUptoRow, standIns := [], harness := (true, "a3fbcfe4e627bbbd41b6d555873e932424d975716239329bd81899823655b3d7"), looks := false }, kinds := [], alts := [], laidByText := true, laidKinds := [.data, .data, .data], laidTests := true, laidLooks := .later }
def FlowApartUptoCardSaid : Prop := Claim7.holds Tryd.pinned (.plain (OpenSpec.upto flowApartSpec)) flowApartUptoCard

/-- THE SECOND FORM's CARD OF 'harrierlaw03.AddrTexts'. -/
def addrTextsUptoCard : Claim7 := { stood := { row := addrTextsUptoRow, standIns := [], harness := (true, "a3fbcfe4e627bbbd41b6d555873e932424d975716239329bd81899823655b3d7"), looks := false }, kinds := [], alts := [], laidByText := true, laidKinds := [.data, .pinned], laidTests := true, laidLooks := .later }
def AddrTextsUptoCardSaid : Prop := Claim7.holds Tryd.pinned (.plain (OpenSpec.upto addrTextsSpec)) addrTextsUptoCard

/-- THE SECOND FORM's CARD OF 'harrierlaw03.AddrReads'. -/
def addrReadsUptoCard : Claim7 := { stood := { row := addrReadsUptoRow, standIns := [], harness := (true, "a3fbcfe4e627bbbd41b6d555873e932424d975716239329bd81899823655b3d7"), looks := false }, kinds := [], alts := [], laidByText := true, laidKinds := [.data, .pinned], laidTests := true, laidLooks := .later }
def AddrReadsUptoCardSaid : Prop := Claim7.holds Tryd.pinned (.plain (OpenSpec.upto addrReadsSpec)) addrReadsUptoCard

/-- THE SECOND FORM's CARD OF 'harrierlaw03.AddrBack'. -/
def addrBackUptoCard : Claim7 := { stood := { row := addrBackUptoRow, standIns := [], harness := (true, "a3fbcfe4e627bbbd41b6d555873e932424d975716239329bd81899823655b3d7"), looks := false }, kinds := [], alts := [], laidByText := true, laidKinds := [.data, .pinned], laidTests := true, laidLooks := .later }
def AddrBackUptoCardSaid : Prop := Claim7.holds Tryd.pinned (.plain (OpenSpec.upto addrBackSpec)) addrBackUptoCard

/-- THE SECOND FORM's CARD OF 'harrierlaw03.AddrNets'. -/
def addrNetsUptoCard : Claim7 := { stood := { row := addrNetsUptoRow, standIns := [], harness := (true, "a3fbcfe4e627bbbd41b6d555873e932424d975716239329bd81899823655b3d7"), looks := false }, kinds := [], alts := [], laidByText := true, laidKinds := [.data, .pinned], laidTests := true, laidLooks := .later }
def AddrNetsUptoCardSaid : Prop := Claim7.holds Tryd.pinned (.plain (OpenSpec.upto addrNetsSpec)) addrNetsUptoCard

/-- THE SECOND FORM's CARD OF 'harrierlaw42.EventTexts'. -/
def eventTextsUptoCard : Claim7 := { stood := { row := eventTextsUptoRow, standIns := [], harness := (true, "a3fbcfe4e627bbbd41b6d555873e932424d975716239329bd81899823655b3d7"), looks := false }, kinds := [], alts := [], laidByText := true, laidKinds := [.data, .data, .data, .data, .pinned], laidTests := true, laidLooks := .later }
def EventTextsUptoCardSaid : Prop := Claim7.holds Tryd.pinned (.plain (OpenSpec.upto eventTextsSpec)) eventTextsUptoCard

/-- THE SECOND FORM's CARD OF 'harrierlaw42.EventFinds'. -/
def eventFindsUptoCard : Claim7 := { stood := { row := eventFindsUptoRow, standIns := [], harness := (true, "a3fbcfe4e627bbbd41b6d555873e932424d975716239329bd81899823655b3d7"), looks := false }, kinds := [], alts := [], laidByText := true, laidKinds := [.data, .data, .data, .data, .pinned], laidTests := true, laidLooks := .later }
def EventFindsUptoCardSaid : Prop := Claim7.holds Tryd.pinned (.plain (OpenSpec.upto eventFindsSpec)) eventFindsUptoCard

/-- THE SECOND FORM's CARD OF 'harrierlaw14.FlowOrders'. -/
def flowOrdersUptoCard : Claim7 := { stood := { row := flowOrdersUptoRow, standIns := [], harness := (true, "a3fbcfe4e627bbbd41b6d555873e932424d975716239329bd81899823655b3d7"), looks := false }, kinds := [], alts := [], laidByText := true, laidKinds := [.data, .data, .data], laidTests := true, laidLooks := .later }
def FlowOrdersUptoCardSaid : Prop := Claim7.holds Tryd.pinned (.plain (OpenSpec.upto flowOrdersSpec)) flowOrdersUptoCard
end Rows
end Go.Proofs.YtbbgkhmlbickpaaDoor
