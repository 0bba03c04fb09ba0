/-
  DERIVED. GIVEN WITH THE SEED: THE CARDS: each row of YtkfokahghlnjmaaGreatDoorRows.lean that lists a variable, with what it lists TIED to the program's text (the seventh form; the later family's looks); each row that meets fmt, with fmt's text TOLD by the authors' own Lean function (tested against real Go, not proved from fmt's source: count such statements apart). THE CARD IS WHAT COUNTS. Prove the row's statement (the work); the ties are given (YtkfokahghlnjmaaGreatDoorTie.lean); close each card by the builder's one call (the guide's Derived/Test/ToyasCard.lean, 'card_holds'). Laid BY PROGRAM, IN A SANDBOX (cutbox-door.mjs). By AI agents, Wed Nov 11 2026. No macro, syntax, notation, axiom, sorry.
-/
import Derived.Test.YtkfokahghlnjmaaGreatDoorRows
import GoSem.ClaimSeven
namespace Go.Proofs.YtkfokahghlnjmaaGreatDoor
namespace Rows

/-- THE TIED CARD OF 'harrierlaw14.FlowPackets'. -/
def flowPacketsCard : Claim7 := { stood := { row := flowPacketsRow, standIns := [], harness := (true, "6986855e01f9ea8f28e16a9a6907127ba6c8897e2acc4ad1df41d216052d006a"), looks := true }, kinds := [], alts := [], laidByText := true, laidKinds := [.data, .data, .data], laidTests := true, laidLooks := .later }
def FlowPacketsCardSaid : Prop := Claim7.holds Tryz.pinned (.plain (OpenSpec.ofChange flowPacketsSpec)) flowPacketsCard

/-- THE SECOND FORM's CARD OF 'harrierlaw14.FlowPackets'. -/
def flowPacketsUptoCard : Claim7 := { stood := { row := flowPacketsUptoRow, standIns := [], harness := (true, "6986855e01f9ea8f28e16a9a6907127ba6c8897e2acc4ad1df41d216052d006a"), looks := true }, kinds := [], alts := [], laidByText := true, laidKinds := [.data, .data, .data], laidTests := true, laidLooks := .later }
def FlowPacketsUptoCardSaid : Prop := Claim7.holds Tryz.pinned (.plain (OpenSpec.upto flowPacketsSpec)) flowPacketsUptoCard
end Rows
end Go.Proofs.YtkfokahghlnjmaaGreatDoor
