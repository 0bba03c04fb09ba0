/- Part Gt of the proof: laws used by the law of this claim. -/
import Derived.Test.YtfhljcbbgckdiaaGreatGs
set_option linter.all false
namespace Go.Proofs.YtfhljcbbgckdiaaGreat
open Go Go.Am Go.RowKit Go.Mix Go.Bas
set_option maxRecDepth 100000
abbrev shHd : Sh := .agg [.int .i64, .int .i64, .int .i64, .int .i64, .rows (.barr 16), .rows (.agg [.int .i64, .bytes])]
abbrev shH6 : Sh := .agg [.int .i64, .int .i64, .int .i64, .int .i64, .int .i64, .barr 16, .barr 16]
structure H6 where
 (c la ln nx hp : Int)
 (s d : List UInt8)
def H6.v (h : H6) : V := .agg [.int .i64 h.c, .int .i64 h.la, .int .i64 h.ln, .int .i64 h.nx, .int .i64 h.hp, .barr 16 h.s, .barr 16 h.d]
end Go.Proofs.YtfhljcbbgckdiaaGreat