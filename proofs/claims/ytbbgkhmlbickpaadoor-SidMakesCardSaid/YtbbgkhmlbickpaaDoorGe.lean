/- Part Ge of the proof: laws used by the law of this claim. -/
import Derived.Shelf.Abstract
import Derived.Test.YtbbgkhmlbickpaaDoorGf
import Derived.Test.YtbbgkhmlbickpaaDoorGd
set_option linter.all false
namespace Go.Proofs.YtbbgkhmlbickpaaDoor
open Go Go.Am Go.RowKit Go.Mix Go.Bas


def cU16 : List V → Option (V × Bool)
  | [.bytes l, .int .i64 i] => some (.tup [.int .i64 (u16 l i).1, .bool (u16 l i).2], true)
  | _ => none
def cU32 : List V → Option (V × Bool)
  | [.bytes l, .int .i64 i] => some (.tup [.int .u32 (u32 l i).1, .bool (u32 l i).2], decide (i ≤ 9223372036854775807))
  | _ => none
def cTwo : List V → Option (V × Bool)
  | [.int .i64 n] => some (.ownv 5 (.bytes (two n)), true)
  | _ => none
def cFour : List V → Option (V × Bool)
  | [.int .u32 n] => some (.ownv 5 (.bytes (four n)), decide (0 ≤ n) && decide (n < 4294967296))
  | _ => none
theorem s_bi {f : FuncId} {l : List UInt8} {i : Int} {v : V} (h : ∀ (O : Nat → Prop) (w : World) A n k, Bs w A n k l → Calls Tryd.prog f #[.slice A n k, .int .i64 i] w fun e w' => Below w.heap.size w w' ∧ ∃ c, e = .returned c ∧ OutRep O w w' v c) : SpecV Tryd.prog f [.bytes l, .int .i64 i] v := by
  intro O w cs hO hv
  obtain ⟨a, b, rfl, ha, hb⟩ := hv.two_inv
  obtain ⟨A, n, k, rfl, hA⟩ := ha.bs
  obtain ⟨rfl, _⟩ := hb.int_inv
  exact h O w A n k hA
theorem s_i {f : FuncId} {k1 : IntKind} {a : Int} {v : V} (h : ∀ (O : Nat → Prop) (w : World), Calls Tryd.prog f #[.int k1 a] w fun e w' => Below w.heap.size w w' ∧ ∃ c, e = .returned c ∧ OutRep O w w' v c) : SpecV Tryd.prog f [.int k1 a] v := by
  intro O w cs hO hv
  obtain ⟨a, rfl, ha⟩ := hv.one_inv
  obtain ⟨rfl, _⟩ := ha.int_inv
  exact h O w
theorem U16_con : ∀ vs v, cU16 vs = some (v, true) → SpecV Tryd.prog 109 vs v := by
  intro vs v h; unfold cU16 at h; split at h
  · injection h with h; injection h with h hb; subst h
    exact s_bi fun O w A n k hA => kDrew (U16_calls _ _ _ _ _ _ hA) (fun _ => by first | exact OutRep.int (by intro h; cases h) | exact OutRep.bool | exact OutRep.intOk (by intro h; cases h))
  · cases h
theorem U32_con : ∀ vs v, cU32 vs = some (v, true) → SpecV Tryd.prog 110 vs v := by
  intro vs v h; unfold cU32 at h; split at h
  · injection h with h; injection h with h hb; subst h
    exact s_bi fun O w A n k hA => kSame (U32_calls _ _ _ _ _ _ hA) (fun _ => by first | exact OutRep.int (by intro h; cases h) | exact OutRep.bool | exact OutRep.intOk (by intro h; cases h))
  · cases h
theorem Two_con : ∀ vs v, cTwo vs = some (v, true) → SpecV Tryd.prog 74 vs v := by
  intro vs v h; unfold cTwo at h; split at h
  · injection h with h; injection h with h hb; subst h
    exact s_i fun O w => kOwn (Two_calls _ _)
  · cases h
theorem Four_con : ∀ vs v, cFour vs = some (v, true) → SpecV Tryd.prog 75 vs v := by
  intro vs v h; unfold cFour at h; split at h
  · injection h with h; injection h with h hb; subst h
    have hb := (Bool.and_eq_true _ _).mp hb
    have hb := And.intro (of_decide_eq_true hb.1) (of_decide_eq_true hb.2)
    exact s_i fun O w => kOwn (Four_calls _ _ hb.1 hb.2)
  · cases h
end Go.Proofs.YtbbgkhmlbickpaaDoor
