/-
  DERIVED. GIVEN WITH THE SEED: THE CARDS: each row of YtpoeinajedbfoaaDoorRows.lean that lists a variable, with what it lists TIED to the program's text (the seventh form; the later family's looks); each row that meets fmt, with fmt's text TOLD by the authors' own Lean function (tested against real Go, not proved from fmt's source: count such statements apart). THE CARD IS WHAT COUNTS. Prove the row's statement (the work); the ties are given (YtpoeinajedbfoaaDoorTie.lean); close each card by the builder's one call (the guide's Derived/Test/ToyasCard.lean, 'card_holds'). Laid BY PROGRAM, IN A SANDBOX (cutbox-door.mjs). By AI agents, Wed Nov 11 2026. No macro, syntax, notation, axiom, sorry.
-/
import Derived.Test.YtpoeinajedbfoaaDoorRows
import GoSem.ClaimSeven
namespace Go.Proofs.YtpoeinajedbfoaaDoor
namespace Rows

/-- THE TIED CARD OF 'harrierlaw31.DropsCounts'. -/
def dropsCountsCard : Claim7 := { stood := { row := dropsCountsRow, standIns := [], harness := (true, "ee6d65b5bfa88959d0b7be999d5fd24efb60ea733726a6339d26bc0fee13510b"), looks := false }, kinds := [], alts := [], laidByText := true, laidKinds := [.data, .data, .data], laidTests := true, laidLooks := .later }
def DropsCountsCardSaid : Prop := Claim7.holds Tryd.pinned (.plain (OpenSpec.ofChange dropsCountsSpec)) dropsCountsCard

/-- THE TIED CARD OF 'harrierlaw31.DropsNames'. -/
def dropsNamesCard : Claim7 := { stood := { row := dropsNamesRow, standIns := [], harness := (true, "ee6d65b5bfa88959d0b7be999d5fd24efb60ea733726a6339d26bc0fee13510b"), looks := false }, kinds := [], alts := [], laidByText := true, laidKinds := [.data, .data, .data], laidTests := true, laidLooks := .later }
def DropsNamesCardSaid : Prop := Claim7.holds Tryd.pinned (.plain (OpenSpec.ofChange dropsNamesSpec)) dropsNamesCard

/-- THE TIED CARD OF 'harrierlaw42.EventTexts'. -/
def eventTextsCard : Claim7 := { stood := { row := eventTextsRow, standIns := [], harness := (true, "ee6d65b5bfa88959d0b7be999d5fd24efb60ea733726a6339d26bc0fee13510b"), looks := false }, kinds := [], alts := [], laidByText := true, laidKinds := [.data, .data, .data, .data, .pinned], laidTests := true, laidLooks := .later }
def EventTextsCardSaid : Prop := Claim7.holds Tryd.pinned (.plain (OpenSpec.ofChange eventTextsSpec)) eventTextsCard

/-- THE TIED CARD OF 'harrierlaw42.EventFinds'. -/
def eventFindsCard : Claim7 := { stood := { row := eventFindsRow, standIns := [], harness := (true, "ee6d65b5bfa88959d0b7be999d5fd24efb60ea733726a6339d26bc0fee13510b"), looks := false }, kinds := [], alts := [], laidByText := true, laidKinds := [.data, .data, .data, .data, .pinned], laidTests := true, laidLooks := .later }
def EventFindsCardSaid : Prop := Claim7.holds Tryd.pinned (.plain (OpenSpec.ofChange eventFindsSpec)) eventFindsCard

/-- THE TIED CARD OF 'harrierlaw14.FlowOrders'. -/
def flowOrdersCard : Claim7 := { stood := { row := flowOrdersRow, standIns := [], harness := (true, "ee6d65b5bfa88959d0b7be999d5fd24efb60ea733726a6339d26bc0fee13510b"), looks := false }, kinds := [], alts := [], laidByText := true, laidKinds := [.data, .data, .data], laidTests := true, laidLooks := .later }
def FlowOrdersCardSaid : Prop := Claim7.holds Tryd.pinned (.plain (OpenSpec.ofChange flowOrdersSpec)) flowOrdersCard

/-- THE SECOND FORM's CARD OF 'harrierlaw31.DropsCounts'. -/
def dropsCountsUptoCard : Claim7 := { stood := { row := dropsCountsUptoRow, standIns := [], harness := (true, "ee6d65b5bfa88959d0b7be999d5fd24efb60ea733726a6339d26bc0fee13510b"), looks := false }, kinds := [], alts := [], laidByText := true, laidKinds := [.data, .data, .data], laidTests := true, laidLooks := .later }
def DropsCountsUptoCardSaid : Prop := Claim7.holds Tryd.pinned (.plain (OpenSpec.upto dropsCountsSpec)) dropsCountsUptoCard

/-- THE SECOND FORM's CARD OF 'harrierlaw31.DropsNames'. -/
def dropsNamesUptoCard : Claim7 := { stood := { row := dropsNamesUptoRow, standIns := [], harness := (true, "ee6d65b5bfa88959d0b7be999d5fd24efb60ea733726a6339d26bc0fee13510b"), looks := false }, kinds := [], alts := [], laidByText := true, laidKinds := [.data, .data, .data], laidTests := true, laidLooks := .later }
def DropsNamesUptoCardSaid : Prop := Claim7.holds Tryd.pinned (.plain (OpenSpec.upto dropsNamesSpec)) dropsNamesUptoCard

/-- THE SECOND FORM's CARD OF 'harrierlaw42.EventTexts'. -/
def eventTextsUptoCard : Claim7 := { stood := { row := eventTextsUptoRow, standIns := [], harness := (true, "ee6d65b5bfa88959d0b7be999d5fd24efb60ea733726a6339d26bc0fee13510b"), looks := false }, kinds := [], alts := [], laidByText := true, laidKinds := [.data, .data, .data, .data, .pinned], laidTests := true, laidLooks := .later }
def EventTextsUptoCardSaid : Prop := Claim7.holds Tryd.pinned (.plain (OpenSpec.upto eventTextsSpec)) eventTextsUptoCard

/-- THE SECOND FORM's CARD OF 'harrierlaw42.EventFinds'. -/
def eventFindsUptoCard : Claim7 := { stood := { row := eventFindsUptoRow, standIns := [], harness := (true, "ee6d65b5bfa88959d0b7be999d5fd24efb60ea733726a6339d26bc0fee13510b"), looks := false }, kinds := [], alts := [], laidByText := true, laidKinds := [.data, .data, .data, .data, .pinned], laidTests := true, laidLooks := .later }
def EventFindsUptoCardSaid : Prop := Claim7.holds Tryd.pinned (.plain (OpenSpec.upto eventFindsSpec)) eventFindsUptoCard

/-- THE SECOND FORM's CARD OF 'harrierlaw14.FlowOrders'. -/
def flowOrdersUptoCard : Claim7 := { stood := { row := flowOrdersUptoRow, standIns := [], harness := (true, "ee6d65b5bfa88959d0b7be999d5fd24efb60ea733726a6339d26bc0fee13510b"), looks := false }, kinds := [], alts := [], laidByText := true, laidKinds := [.data, .data, .data], laidTests := true, laidLooks := .later }
def FlowOrdersUptoCardSaid : Prop := Claim7.holds Tryd.pinned (.plain (OpenSpec.upto flowOrdersSpec)) flowOrdersUptoCard
end Rows
end Go.Proofs.YtpoeinajedbfoaaDoor
