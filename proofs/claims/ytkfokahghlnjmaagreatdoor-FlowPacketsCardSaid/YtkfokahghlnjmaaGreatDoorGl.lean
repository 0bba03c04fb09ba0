/- Part Gl of the proof: laws used by the law of this claim. -/
import Derived.Test.YtkfokahghlnjmaaGreatDoorGf
import Derived.Test.YtkfokahghlnjmaaGreatDoorGc
import Derived.Test.YtkfokahghlnjmaaGreatDoorGd
set_option linter.all false
namespace Go.Proofs.YtkfokahghlnjmaaGreatDoor
open Go Go.Am Go.RowKit Go.Mix Go.Bas
end Go.Proofs.YtkfokahghlnjmaaGreatDoor
