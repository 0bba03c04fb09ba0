/- Part Gu of the proof: laws used by the law of this claim. -/
import Derived.Test.YtkfokahghlnjmaaGreatDoorGn
import Derived.Test.YtkfokahghlnjmaaGreatDoorGw
set_option linter.all false
namespace Go.Proofs.YtkfokahghlnjmaaGreatDoor
open Go Go.Am Go.RowKit Go.Mix Go.Bas
set_option maxRecDepth 100000
/-- a segment as a value -/
structure Tc where
  (sp dp sq ak fl wn sm ug : Int)
  (op : List V)
  (pl : List UInt8)
def Tc.v (t : Tc) : V := .agg [.int .i64 t.sp, .int .i64 t.dp, .int .u32 t.sq, .int .u32 t.ak, .int .i64 t.fl, .int .i64 t.wn, .int .i64 t.sm, .int .i64 t.ug, .rows (.agg [.int .i64, .bytes]) t.op, .bytes t.pl]
def shTc : Sh := .agg [.int .i64, .int .i64, .int .u32, .int .u32, .int .i64, .int .i64, .int .i64, .int .i64, .rows (.agg [.int .i64, .bytes]), .bytes]
end Go.Proofs.YtkfokahghlnjmaaGreatDoor
