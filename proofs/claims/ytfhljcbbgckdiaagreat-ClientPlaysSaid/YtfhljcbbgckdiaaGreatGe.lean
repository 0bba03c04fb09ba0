/- Part Ge of the proof: laws used by the law of this claim. -/
import Derived.Shelf.Abstract
import Derived.Test.YtfhljcbbgckdiaaGreatGf
import Derived.Test.YtfhljcbbgckdiaaGreatGd
set_option linter.all false
namespace Go.Proofs.YtfhljcbbgckdiaaGreat
open Go Go.Am Go.RowKit Go.Mix Go.Bas
def cU16 : List V → Option (V × Bool)
 | [.bytes l, .int .i64 i] => some (.tup [.int .i64 (u16 l i).1, .bool (u16 l i).2], true)
 | _ => none
def cU32 : List V → Option (V × Bool)
 | [.bytes l, .int .i64 i] => some (.tup [.int .u32 (u32 l i).1, .bool (u32 l i).2], decide (i ≤ 9223372036854775807))
 | _ => none
def cTwo : List V → Option (V × Bool)
 | [.int .i64 n] => some (.ownv 5 (.bytes (two n)), true)
 | _ => none
def cFour : List V → Option (V × Bool)
 | [.int .u32 n] => some (.ownv 5 (.bytes (four n)), decide (0 ≤ n) && decide (n < 4294967296))
 | _ => none
def cClone : List V → Option (V × Bool)
 | [.bytes l] => some (.ownv 5 (.bytes l), decide (l.length ≤ 140737488355328))
 | _ => none
def cChk : List V → Option (V × Bool)
 | [.barr 16 s, .barr 16 d, .int .i64 n, .bytes l] => some (.int .i64 (chk s d n l), decide (l.length ≤ 140737488355327))
 | _ => none
def cFine : List V → Option (V × Bool)
 | [.barr 16 s, .barr 16 d, .int .i64 n, .bytes l] => some (.bool (both s d n l == 65535), decide (l.length ≤ 140737488355327))
 | _ => none
theorem s_bi {f : FuncId} {l : List UInt8} {i : Int} {v : V} (h : ∀ (O : Nat → Prop) (w : World) A n k, Bs w A n k l → Calls Tryz.prog f #[.slice A n k, .int .i64 i] w fun e w' => Below w.heap.size w w' ∧ ∃ c, e = .returned c ∧ OutRep O w w' v c) : SpecV Tryz.prog f [.bytes l, .int .i64 i] v := by
 intro O w cs hO hv
 obtain ⟨a, b, rfl, ha, hb⟩ := hv.two_inv
 obtain ⟨A, n, k, rfl, hA⟩ := ha.bs
 obtain ⟨rfl, _⟩ := hb.int_inv
 exact h O w A n k hA
theorem s_i {f : FuncId} {k1 : IntKind} {a : Int} {v : V} (h : ∀ (O : Nat → Prop) (w : World), Calls Tryz.prog f #[.int k1 a] w fun e w' => Below w.heap.size w w' ∧ ∃ c, e = .returned c ∧ OutRep O w w' v c) : SpecV Tryz.prog f [.int k1 a] v := by
 intro O w cs hO hv
 obtain ⟨a, rfl, ha⟩ := hv.one_inv
 obtain ⟨rfl, _⟩ := ha.int_inv
 exact h O w
theorem s_b {f : FuncId} {l : List UInt8} {v : V} (h : ∀ (O : Nat → Prop) (w : World) A n k, Bs w A n k l → Calls Tryz.prog f #[.slice A n k] w fun e w' => Below w.heap.size w w' ∧ ∃ c, e = .returned c ∧ OutRep O w w' v c) : SpecV Tryz.prog f [.bytes l] v := by
 intro O w cs hO hv
 obtain ⟨a, rfl, ha⟩ := hv.one_inv
 obtain ⟨A, n, k, rfl, hA⟩ := ha.bs
 exact h O w A n k hA
theorem s_aaib {f : FuncId} {s d l : List UInt8} {i : Int} {v : V} (h : ∀ (O : Nat → Prop) (w : World) A n k, s.length = 16 → d.length = 16 → Bs w A n k l → Calls Tryz.prog f #[av s, av d, .int .i64 i, .slice A n k] w fun e w' => Below w.heap.size w w' ∧ ∃ c, e = .returned c ∧ OutRep O w w' v c) : SpecV Tryz.prog f [.barr 16 s, .barr 16 d, .int .i64 i, .bytes l] v := by
 intro O w cs hO hv
 obtain ⟨a, _, rfl, ha, hv⟩ := hv.cons_inv
 obtain ⟨b, c, x, rfl, hb, hc, hx⟩ := hv.three_inv
 obtain ⟨rfl, h1⟩ := ha.barr_inv
 obtain ⟨rfl, h2⟩ := hb.barr_inv
 obtain ⟨rfl, _⟩ := hc.int_inv
 obtain ⟨A, n, k, rfl, hA⟩ := hx.bs
 exact h O w A n k h1 h2 hA
theorem U16_con : ∀ vs v, cU16 vs = some (v, true) → SpecV Tryz.prog 114 vs v := by
 intro vs v h; unfold cU16 at h; split at h
 ·injection h with h; injection h with h hb; subst h
  exact s_bi fun O w A n k hA => kDrew (U16_calls _ _ _ _ _ _ hA) (fun _ => by first | exact OutRep.int (by intro h; cases h) | exact OutRep.bool | exact OutRep.intOk (by intro h; cases h))
 ·cases h
theorem rU16_con : ∀ vs v, cU16 vs = some (v, true) → SpecV Tryz.prog 94 vs v := by
 intro vs v h; unfold cU16 at h; split at h
 ·injection h with h; injection h with h hb; subst h
  exact s_bi fun O w A n k hA => kDrew (rU16_calls _ _ _ _ _ _ hA) (fun _ => by first | exact OutRep.int (by intro h; cases h) | exact OutRep.bool | exact OutRep.intOk (by intro h; cases h))
 ·cases h
theorem U32_con : ∀ vs v, cU32 vs = some (v, true) → SpecV Tryz.prog 113 vs v := by
 intro vs v h; unfold cU32 at h; split at h
 ·injection h with h; injection h with h hb; subst h
  exact s_bi fun O w A n k hA => kSame (U32_calls _ _ _ _ _ _ hA) (fun _ => by first | exact OutRep.int (by intro h; cases h) | exact OutRep.bool | exact OutRep.intOk (by intro h; cases h))
 ·cases h
theorem rU32_con : ∀ vs v, cU32 vs = some (v, true) → SpecV Tryz.prog 68 vs v := by
 intro vs v h; unfold cU32 at h; split at h
 ·injection h with h; injection h with h hb; subst h
  have hb := of_decide_eq_true hb
  exact s_bi fun O w A n k hA => kDrew (rU32_calls _ _ _ _ _ _ hA hb) (fun _ => by first | exact OutRep.int (by intro h; cases h) | exact OutRep.bool | exact OutRep.intOk (by intro h; cases h))
 ·cases h
theorem Two_con : ∀ vs v, cTwo vs = some (v, true) → SpecV Tryz.prog 83 vs v := by
 intro vs v h; unfold cTwo at h; split at h
 ·injection h with h; injection h with h hb; subst h
  exact s_i fun O w => kOwn (Two_calls _ _)
 ·cases h
theorem Four_con : ∀ vs v, cFour vs = some (v, true) → SpecV Tryz.prog 84 vs v := by
 intro vs v h; unfold cFour at h; split at h
 ·injection h with h; injection h with h hb; subst h
  have hb := (Bool.and_eq_true _ _).mp hb
  have hb := And.intro (of_decide_eq_true hb.1) (of_decide_eq_true hb.2)
  exact s_i fun O w => kOwn (Four_calls _ _ hb.1 hb.2)
 ·cases h
theorem Clone_con : ∀ vs v, cClone vs = some (v, true) → SpecV Tryz.prog 121 vs v := by
 intro vs v h; unfold cClone at h; split at h
 ·injection h with h; injection h with h hb; subst h
  have hb := of_decide_eq_true hb
  exact s_b fun O w A n k hA => kOwn (Clone_calls _ _ _ _ _ hA (by have := hA.len; omega))
 ·cases h
theorem Chk_con : ∀ vs v, cChk vs = some (v, true) → SpecV Tryz.prog 127 vs v := by
 intro vs v h; unfold cChk at h; split at h
 ·injection h with h; injection h with h hb; subst h
  have hb := of_decide_eq_true hb
  exact s_aaib fun O w A n k h1 h2 hA => kBelow (Check_calls _ _ _ _ _ _ _ _ h1 h2 hA (by have := hA.len; omega)) (fun _ => by first | exact OutRep.int (by intro h; cases h) | exact OutRep.bool | exact OutRep.intOk (by intro h; cases h))
 ·cases h
theorem rChk_con : ∀ vs v, cChk vs = some (v, true) → SpecV Tryz.prog 85 vs v := by
 intro vs v h; unfold cChk at h; split at h
 ·injection h with h; injection h with h hb; subst h
  have hb := of_decide_eq_true hb
  exact s_aaib fun O w A n k h1 h2 hA => kBelow (rCheck_calls _ _ _ _ _ _ _ _ h1 h2 hA (by have := hA.len; omega)) (fun _ => by first | exact OutRep.int (by intro h; cases h) | exact OutRep.bool | exact OutRep.intOk (by intro h; cases h))
 ·cases h
theorem Fine_con : ∀ vs v, cFine vs = some (v, true) → SpecV Tryz.prog 176 vs v := by
 intro vs v h; unfold cFine at h; split at h
 ·injection h with h; injection h with h hb; subst h
  have hb := of_decide_eq_true hb
  exact s_aaib fun O w A n k h1 h2 hA => kBelow (Fine_calls _ _ _ _ _ _ _ _ h1 h2 hA (by have := hA.len; omega)) (fun _ => by first | exact OutRep.int (by intro h; cases h) | exact OutRep.bool | exact OutRep.intOk (by intro h; cases h))
 ·cases h
theorem rFine_con : ∀ vs v, cFine vs = some (v, true) → SpecV Tryz.prog 38 vs v := by
 intro vs v h; unfold cFine at h; split at h
 ·injection h with h; injection h with h hb; subst h
  have hb := of_decide_eq_true hb
  exact s_aaib fun O w A n k h1 h2 hA => kBelow (rFine_calls _ _ _ _ _ _ _ _ h1 h2 hA (by have := hA.len; omega)) (fun _ => by first | exact OutRep.int (by intro h; cases h) | exact OutRep.bool | exact OutRep.intOk (by intro h; cases h))
 ·cases h
end Go.Proofs.YtfhljcbbgckdiaaGreat