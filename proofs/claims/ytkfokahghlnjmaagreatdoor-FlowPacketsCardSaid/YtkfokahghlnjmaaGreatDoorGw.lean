/- Part Gw of the proof: laws used by the law of this claim. -/
import Derived.Test.YtkfokahghlnjmaaGreatDoorGf
set_option linter.all false
namespace Go.Proofs.YtkfokahghlnjmaaGreatDoor
open Go Go.Am Go.RowKit Go.Mix Go.Bas
theorem bytes_of {v : V} (h : isR .bytes v = true) : v = .bytes (toL v) := by
  cases v <;> first | rfl | (simp [isR] at h)
end Go.Proofs.YtkfokahghlnjmaaGreatDoor
