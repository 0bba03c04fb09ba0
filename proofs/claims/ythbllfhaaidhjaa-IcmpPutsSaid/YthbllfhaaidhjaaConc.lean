/- Contracts for the abstract machine: layer 8. -/
import Derived.Test.YthbllfhaaidhjaaConb
import Derived.Test.YthbllfhaaidhjaaIcmb
namespace Go.Proofs.Ythbllfhaaidhjaa
open Go Go.Am Go.RowKit Go.Mix Go.Bas

theorem msg_inv {O : Nat → Prop} {w : World} {kd cd wd : Int} {body : List UInt8} {c : Value} (h : VRep no O w (.agg [.int .i64 kd, .int .i64 cd, .int .u32 wd, .bytes body]) c) :
    ∃ A n k, c = .agg #[.int .i64 kd, .int .i64 cd, .int .u32 wd, .slice A n k] ∧ Bs w A n k body := by
  obtain ⟨cs, rfl, hc⟩ := h.agg_inv rfl
  cases hc with
  | agg h1 =>
    cases h1 with
    | cons a h1 =>
      cases a
      cases h1 with
      | cons a h1 =>
        cases a
        cases h1 with
        | cons a h1 =>
          cases a
          cases h1 with
          | cons a h1 =>
            cases h1
            cases a with
            | bytes hb _ => exact ⟨_, _, _, rfl, hb⟩
def cPut : List V → Option (V × Bool)
  | [.barr 16 s, .barr 16 d, .agg [.int .i64 kd, .int .i64 cd, .int .u32 wd, .bytes body]] => some (.ownv 5 (.bytes (putM s d kd cd wd body)), decide (body.length ≤ 140737488351232 ∧ 0 ≤ wd ∧ wd < 4294967296))
  | _ => none
theorem IPut_con : ∀ vs v, cPut vs = some (v, true) → SpecV Try.prog 21 vs v := by
  intro vs v h; unfold cPut at h; split at h
  · injection h with h; injection h with h hb; subst h
    have hb := of_decide_eq_true hb
    intro O w cs hO hv
    obtain ⟨a, b, c, rfl, ha, hb', hc⟩ := hv.three_inv
    obtain ⟨rfl, h1⟩ := ha.barr_inv
    obtain ⟨rfl, h2⟩ := hb'.barr_inv
    obtain ⟨A, n, k, rfl, hA⟩ := msg_inv hc
    exact kOwn (IPut_calls _ _ _ _ _ _ _ _ _ _ h1 h2 hA (by have := hA.len; omega) hb.2.1 hb.2.2)
  · cases h
theorem rIPut_con : ∀ vs v, cPut vs = some (v, true) → SpecV Try.prog 22 vs v := by
  intro vs v h; unfold cPut at h; split at h
  · injection h with h; injection h with h hb; subst h
    have hb := of_decide_eq_true hb
    intro O w cs hO hv
    obtain ⟨a, b, c, rfl, ha, hb', hc⟩ := hv.three_inv
    obtain ⟨rfl, h1⟩ := ha.barr_inv
    obtain ⟨rfl, h2⟩ := hb'.barr_inv
    obtain ⟨A, n, k, rfl, hA⟩ := msg_inv hc
    exact kOwn (rIPut_calls _ _ _ _ _ _ _ _ _ _ h1 h2 hA (by have := hA.len; omega) hb.2.1 hb.2.2)
  · cases h
end Go.Proofs.Ythbllfhaaidhjaa
