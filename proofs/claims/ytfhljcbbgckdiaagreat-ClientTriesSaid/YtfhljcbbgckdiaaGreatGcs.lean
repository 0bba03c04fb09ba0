/- Part Gcs of the proof: laws used by the law of this claim. -/
import Derived.Test.YtfhljcbbgckdiaaGreatGcn
set_option linter.all false
namespace Go.Proofs.YtfhljcbbgckdiaaGreat
open Go Go.Am Go.RowKit Go.Bas
set_option maxRecDepth 100000
/-! ### invariants stay -/
theorem cnnC_gd {a : List UInt8} (ha : a.length = 16) {d : List UInt8} (hd : d.length = 16) (now n p : Int) : cGd (cnnC a now n d p) :=
  ⟨cnnC_ok a now n d p, ⟨by show (1 : Int) ≤ 1; omega, by show (1 : Int) ≤ 5; omega⟩, ⟨by show (0 : Int) ≤ 0; omega, by show (0 : Int) ≤ 3; omega⟩, ha, hd⟩
/-! ### packets compared -/
end Go.Proofs.YtfhljcbbgckdiaaGreat
