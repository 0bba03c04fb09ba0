/- Part Gtx of the proof: laws used by the law of this claim. -/
import Derived.Shelf.Strings.Builder1
import Derived.Shelf.Strings.Builder2
import Derived.Shelf.Strings.OnBuilder
import Derived.Shelf.Small.Bits
import Derived.Shelf.Strconv.Itoa0
import Derived.Shelf.Strconv.Itoa1
import Derived.Shelf.LaysM
import Derived.Shelf.Strconv.Itoa2
import Derived.Shelf.Strconv.Itoa3
import Derived.Shelf.Strings.Search1
import Derived.Shelf.Strings.Search2
import Derived.Shelf.Strings.Search3
import Derived.Shelf.Strings.Cut
import Derived.Shelf.Strings.Count
import Derived.Shelf.Strings.Shaped
import Derived.Shelf.Strings.Split
import Derived.Test.YtbbgkhmlbickpaaDoorProg
import Derived.Lib.ItoaMem
import Derived.WalkKit
import Derived.BigCall
import Derived.BigGuard
import Derived.Test.YtbbgkhmlbickpaaDoorGe
import Derived.Test.YtbbgkhmlbickpaaDoorGk
import Derived.Test.YtbbgkhmlbickpaaDoorGf
set_option linter.all false
namespace Go.Proofs
open Go.Shelf
end Go.Proofs

namespace Go.Proofs.YtbbgkhmlbickpaaDoor
open Go Go.Am Go.RowKit Go.Mix Go.Bas Go.Sort
end Go.Proofs.YtbbgkhmlbickpaaDoor

namespace Go.Proofs.YtbbgkhmlbickpaaDoor
open Go Go.RowKit Go.Sort Go.Lib
end Go.Proofs.YtbbgkhmlbickpaaDoor
namespace Go.Proofs.YtbbgkhmlbickpaaDoor
open Go Go.Am Go.RowKit Go.Mix Go.Bas Go.Sort
/-! ### the digits of the document -/
end Go.Proofs.YtbbgkhmlbickpaaDoor
