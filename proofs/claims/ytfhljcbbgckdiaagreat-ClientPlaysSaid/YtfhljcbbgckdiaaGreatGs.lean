/- Part Gs of the proof: laws used by the law of this claim. -/
import Derived.Defers
import Derived.Recover
import Derived.Test.YtfhljcbbgckdiaaGreatGh
import Derived.Test.YtfhljcbbgckdiaaGreatGr
import Derived.Test.YtfhljcbbgckdiaaGreatGw
set_option linter.all false
namespace Go.Proofs.YtfhljcbbgckdiaaGreat
open Go Go.Am Go.RowKit Go.Mix Go.Bas
set_option maxRecDepth 100000
theorem gE_40 {b : List UInt8} (h : gE b = 0) : 40 ≤ b.length := by
 unfold gE at h
 split at h
 ·cases h
 ·omega
def hdE (b : List UInt8) : Int := if gE b = 0 then (if gLn b = (b.length : Int) - 40 then 0 else 5) else gE b
def sN (t : List UInt8) : Int := zI (shE t) (gt t 0)
def sL (t : List UInt8) : Int := zI (shE t) (gt t 3)
def sF (t : List UInt8) : Int := zI (shE t) (gt t 5)
def sT (t : List UInt8) : Int := zI (shE t) (gt t 6 * 256 + gt t 7)
def sS (t : List UInt8) : List V := zV (shE t) (sgL t (shN t))
def sP (t : List UInt8) : List V := zV (shE t) (paV (parse (shT t)))
def sZ (t : List UInt8) : Int := zI (shE t) (shL t)
def cSrhPar2 : List V → Option (V × Bool)
 | [.bytes b] => some (.tup [.agg [.int .i64 (sN b), .int .i64 (sL b), .int .i64 (sF b), .int .i64 (sT b), .rows (.barr 16) (sS b), .rows (.agg [.int .i64, .bytes]) (sP b)], .int .i64 (sZ b), .int .i64 (shE b)], decide (b.length ≤ 140737488355328))
 | _ => none
theorem srhPar2_con : ∀ vs v, cSrhPar2 vs = some (v, true) → SpecV Tryz.prog 117 vs v := by
 intro vs v h
 unfold cSrhPar2 at h
 split at h
 ·exact srhParse_con _ _ h
 ·cases h
theorem rSrhPar2_con : ∀ vs v, cSrhPar2 vs = some (v, true) → SpecV Tryz.prog 61 vs v := by
 intro vs v h
 unfold cSrhPar2 at h
 split at h
 ·exact rSrhParse_con _ _ h
 ·cases h
theorem shE_zero {t : List UInt8} (h : shE t = 0) : 8 ≤ t.length ∧ shL t ≤ t.length ∧ shN t ≤ 10 ∧ gt t 3 < (shN t : Int) ∧ 8 + 16 * shN t ≤ shL t := by
 unfold shE at h
 split at h; · cases h
 split at h; · cases h
 split at h; · cases h
 split at h; · cases h
 split at h; · cases h
 split at h; · cases h
 refine ⟨?_, ?_, ?_, ?_, ?_⟩ <;> omega
structure K3 (G : Nat) (w w' : World) : Prop where
 bel : Below G w w'
 oth : ∀ b, b < G ∨ G + 3 ≤ b → w'.heap[b]? = w.heap[b]?
theorem K3.refl (G : Nat) (w : World) : K3 G w w := ⟨Below.refl _ _, fun _ _ => rfl⟩
theorem K3.drew {G : Nat} {w w' : World} (h : K3 G w w') : K3 G w w'.drew := ⟨h.bel.drew, h.oth⟩
theorem K3.set {G : Nat} {w w' : World} (h : K3 G w w') {p : Addr} (hp : G ≤ p.block ∧ p.block < G + 3) (v : Value) : K3 G w (w'.setCell p v) :=
 ⟨h.bel.setCell hp.1 v, fun b hb => (Below.heap_setCell w' p v b (by omega)).trans (h.oth b hb)⟩
theorem K3.sets {G g : Nat} (hg : G ≤ g ∧ g < G + 3) : ∀ (vs : List Value) (o : Nat) {w w' : World}, K3 G w w' → K3 G w (w'.setCells g o vs)
 | [], _, _, _, h => h
 | v :: r, o, w, w', h => by rw [World.setCells]; exact K3.sets hg r (o + 1) (h.set (p := ⟨g, o, none⟩) hg v)
def viaR (b : List UInt8) (s : List V) : List V := (s ++ [V.barr 16 (gD b)]).reverse
def inC0 (b : List UInt8) (s t : List V) : Int := srC (gNx b) (s.length : Int) 0 0 (viaR b s) t
def inX (b : List UInt8) (s t : List V) : List UInt8 := srP ⟨gNx b, (s.length : Int), 0, 0, viaR b s, t⟩
def inE (b : List UInt8) (s t : List V) : Int :=
 if hdE b ≠ 0 then hdE b else if gNx b = 43 ∨ gNx b = 0 then 7 else if s.length = 0 ∨ 9 < s.length then 8 else
 if wkE b (gNx b) 40 = 0 ∧ 8 < (wkV b (gNx b) 40).length then 8 else if inC0 b s t ≠ 0 then inC0 b s t else if 1500 < b.length + (inX b s t).length then 4 else 0
def inB (b : List UInt8) (s t : List V) : List UInt8 := if inE b s t = 0 then hdX (gC b) (gLa b) ((inX b s t).length + ((b.length : Int) - 40)) 43 (gHp b) (gS b) (toA (s.getD 0 .undef)) ++ (inX b s t ++ b.drop 40) else []
end Go.Proofs.YtfhljcbbgckdiaaGreat