/- General words, second part. -/
import Derived.Test.YthbllfhaaidhjaaRow
import Derived.Test.YthbllfhaaidhjaaStr
namespace Go.Mix
open Go Go.RowKit
theorem calls_name {P : Program} {f : FuncId} {args : Array Value} {w : World} {Q : Ending → World → Prop} (h : ∀ w', w' = w → Calls P f args w' Q) : Calls P f args w Q := h w rfl
end Go.Mix
namespace Go.Bas
open Go Go.RowKit Go.Mix
theorem Own.sets_far {base g : Nat} {T : TypeId} {A : Option Addr} {n c : Nat} {l : List UInt8} (hg : g < base) : ∀ (vs : List Value) (o : Nat) {w : World}, Own w base T A n c l → Own (w.setCells g o vs) base T A n c l
  | [], _, _, h => h
  | v :: r, o, w, h => by rw [World.setCells]; exact Own.sets_far hg r (o + 1) (h.far (p := ⟨g, o, none⟩) hg v)
end Go.Bas
