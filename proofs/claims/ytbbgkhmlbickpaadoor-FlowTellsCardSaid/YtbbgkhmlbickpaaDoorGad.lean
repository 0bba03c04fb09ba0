/- Part Gad of the proof: laws used by the law of this claim. -/
import Derived.Test.YtbbgkhmlbickpaaDoorGtx
import Derived.Test.YtbbgkhmlbickpaaDoorGz
set_option linter.all false
namespace Go.Proofs.YtbbgkhmlbickpaaDoor
open Go Go.Am Go.RowKit Go.Mix Go.Bas
set_option maxRecDepth 100000
/-! ### the document's -/
end Go.Proofs.YtbbgkhmlbickpaaDoor

namespace Go.Proofs.YtbbgkhmlbickpaaDoor
open Go Go.Am Go.RowKit Go.Mix Go.Bas
set_option maxRecDepth 100000
/-! ### digits -/
def hexD (d : Nat) : UInt8 := [48, 49, 50, 51, 52, 53, 54, 55, 56, 57, 97, 98, 99, 100, 101, 102].getD d 0
def hx (n : Int) : UInt8 := hexD (n % 16).toNat
/-! ### rows of 0 -/
/-! ### the longest row -/
/-! ### numbers with colons between -/
/-! ### the document's text -/
end Go.Proofs.YtbbgkhmlbickpaaDoor

namespace Go.Proofs.YtbbgkhmlbickpaaDoor
open Go Go.Am Go.RowKit Go.Mix Go.Bas
set_option maxRecDepth 100000
end Go.Proofs.YtbbgkhmlbickpaaDoor
