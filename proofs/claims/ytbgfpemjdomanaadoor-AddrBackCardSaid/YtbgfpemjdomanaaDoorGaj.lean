/- Part Gaj of the proof: laws used by the law of this claim. -/
import Derived.Test.YtbgfpemjdomanaaDoorGaf
import Derived.Test.YtbgfpemjdomanaaDoorGf
set_option linter.all false
namespace Go.Proofs.YtbgfpemjdomanaaDoor
open Go Go.Am Go.RowKit Go.Mix Go.Bas
set_option maxRecDepth 100000
end Go.Proofs.YtbgfpemjdomanaaDoor

namespace Go.Proofs.YtbgfpemjdomanaaDoor
open Go Go.Am Go.RowKit Go.Mix Go.Bas
set_option maxRecDepth 100000
def rgE : List UInt8 → Int → Int → List V → Option (Int × Int × List V)
  | [], n, k, o => some (n, k, o)
  | c :: l, n, k, o => if (c.toNat : Int) = 58 then (if k = 0 then none else if l = [] then none else rgE l 0 0 (o ++ [.int .i64 n])) else if vlB c.toNat = true then (if k = 4 then none else rgE l (n * 16 + vlN c.toNat) (k + 1) o) else none
theorem vl_rng {c : Int} (h : vlB c = true) : 0 ≤ vlN c ∧ vlN c ≤ 15 := by
  have d := of_decide_eq_true h
  unfold vlN
  (repeat' split) <;> omega
theorem rgE_len : ∀ (l : List UInt8) (n k : Int) (o : List V) (r : Int × Int × List V), rgE l n k o = some r → r.2.2.length ≤ o.length + l.length
  | [], n, k, o, r, h => by
    have h : some (n, k, o) = some r := h
    injection h with h
    subst h
    exact Nat.le_add_right _ _
  | c :: l, n, k, o, r, h => by
    unfold rgE at h
    split at h
    · split at h
      · cases h
      · split at h
        · cases h
        · have := rgE_len l _ _ _ r h
          rw [List.length_append, List.length_singleton] at this
          rw [List.length_cons]
          omega
    · split at h
      · split at h
        · cases h
        · have := rgE_len l _ _ _ r h
          rw [List.length_cons]
          omega
      · cases h
/-- the document's groups -/
def rgL (s : List UInt8) : List V := match rgE s 0 0 [] with | some (n, k, o) => if k > 0 then o ++ [.int .i64 n] else o | none => []
def rgK (s : List UInt8) : Bool := (rgE s 0 0 []).isSome
end Go.Proofs.YtbgfpemjdomanaaDoor

namespace Go.Proofs.YtbgfpemjdomanaaDoor
open Go Go.Am Go.RowKit Go.Mix Go.Bas
set_option maxRecDepth 100000
/-- where two colons stand, from a place on -/
def rdF (s : List UInt8) : Nat → Nat → Int
  | 0, _ => -1
  | k + 1, i => if gt s i = 58 ∧ gt s (i + 1) = 58 then (i : Int) else rdF s k (i + 1)
end Go.Proofs.YtbgfpemjdomanaaDoor

namespace Go.Proofs.YtbgfpemjdomanaaDoor
open Go Go.Am Go.RowKit Go.Mix Go.Bas
set_option maxRecDepth 100000
/-- numbers copied, one by one -/
def cpF (l : List V) : Nat → Nat → List V → List V
  | 0, _, w => w
  | k + 1, j, w => cpF l k (j + 1) (w.set j (eta (.int .i64) (l.getD j .undef)))
end Go.Proofs.YtbgfpemjdomanaaDoor

namespace Go.Proofs.YtbgfpemjdomanaaDoor
open Go Go.Am Go.RowKit Go.Mix Go.Bas
set_option maxRecDepth 100000
/-- numbers copied to the end -/
def cpG (m : List V) : Nat → Nat → List V → List V
  | 0, _, w => w
  | k + 1, j, w => cpG m k (j + 1) (w.set (8 - m.length + j) (eta (.int .i64) (m.getD j .undef)))
def rdAt (s : List UInt8) : Int := rdF s (s.length - 1 - 0) 0
def rdA (s : List UInt8) : List UInt8 := cutL s 0 (rdAt s).toNat
def rdB (s : List UInt8) : List UInt8 := cutL s (IntKind.i64.wrap (rdAt s + 2)).toNat s.length
def rdZ : List V := List.replicate 8 (.int .i64 0)
def rdV (s : List UInt8) : List V := cpF (rgL (rdA s)) ((rgL (rdA s)).length - 0) 0 rdZ
def rdW (s : List UInt8) : List V := cpG (rgL (rdB s)) ((rgL (rdB s)).length - 0) 0 (rdV s)
end Go.Proofs.YtbgfpemjdomanaaDoor

namespace Go.Proofs.YtbgfpemjdomanaaDoor
open Go Go.Am Go.RowKit Go.Mix Go.Bas
set_option maxRecDepth 100000
theorem rdF_rng (s : List UInt8) : ∀ k i, rdF s k i = -1 ∨ ((i : Int) ≤ rdF s k i ∧ rdF s k i < (i : Int) + k)
  | 0, _ => .inl rfl
  | k + 1, i => by
    have ih := rdF_rng s k (i + 1)
    unfold rdF
    split
    · exact .inr ⟨Int.le_refl _, by omega⟩
    · rcases ih with h | h
      · exact .inl h
      · exact .inr ⟨by omega, by omega⟩
theorem rdAt_rng (s : List UInt8) : rdAt s = -1 ∨ (0 ≤ rdAt s ∧ rdAt s + 1 < s.length) := by
  unfold rdAt
  rcases rdF_rng s (s.length - 1 - 0) 0 with h | h
  · exact .inl h
  · exact .inr ⟨by omega, by omega⟩
/-- the numbers that the document reads; none: it is no address -/
def rdQ (s : List UInt8) : Option (List V) :=
  if rdAt s < 0 then (if rgK s = true ∧ (rgL s).length = 8 then some (rgL s) else none)
  else if rgK (rdA s) = true ∧ rgK (rdB s) = true ∧ (rgL (rdA s)).length + (rgL (rdB s)).length ≤ 7 then some (rdW s) else none
def rdAns (q : Option (List V)) : V := match q with
  | some l => .tup [.barr 16 (ofL l), .int .i64 0]
  | none => .tup [.barr 16 (List.replicate 16 0), .int .i64 5]
theorem cutL_le (s : List UInt8) (i j : Nat) : (cutL s i j).length ≤ s.length := by
  unfold cutL
  rw [List.length_take, List.length_drop]
  omega
theorem rgL_len (s : List UInt8) : (rgL s).length ≤ s.length + 1 := by
  unfold rgL
  cases hr : rgE s 0 0 [] with
  | none => simp
  | some r =>
    obtain ⟨n, k, o⟩ := r
    have := rgE_len s 0 0 [] _ hr
    simp only [List.length_nil] at this
    dsimp only
    split
    · rw [List.length_append, List.length_singleton]; omega
    · omega
end Go.Proofs.YtbgfpemjdomanaaDoor
