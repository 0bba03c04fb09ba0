/- Part Gsi of the proof: laws used by the law of this claim. -/
import Derived.Test.YtkfokahghlnjmaaGreatDoorProg
import Derived.Test.YtkfokahghlnjmaaGreatDoorGe
import Derived.Test.YtkfokahghlnjmaaGreatDoorGl
import Derived.Test.YtkfokahghlnjmaaGreatDoorGk
import Derived.Test.YtkfokahghlnjmaaGreatDoorGf
set_option linter.all false
namespace Go.Proofs.YtkfokahghlnjmaaGreatDoor
open Go Go.Am Go.RowKit Go.Mix Go.Bas
set_option maxRecDepth 100000
end Go.Proofs.YtkfokahghlnjmaaGreatDoor
