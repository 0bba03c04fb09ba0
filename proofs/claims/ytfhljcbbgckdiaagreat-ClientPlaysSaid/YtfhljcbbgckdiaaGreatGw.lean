/- Part Gw of the proof: laws used by the law of this claim. -/
import Derived.Test.YtfhljcbbgckdiaaGreatGf
set_option linter.all false
namespace Go.Proofs.YtfhljcbbgckdiaaGreat
open Go Go.Am Go.RowKit Go.Mix Go.Bas
def jnB : List V → List UInt8
 | [] => []
 | v :: r => toL v ++ jnB r
theorem jnB_flat (l : List V) : jnB l = (l.map toL).flatten := by
 induction l with
 | nil => rfl
 | cons v r ih => rw [jnB, ih]; rfl
theorem bytes_of {v : V} (h : isR .bytes v = true) : v = .bytes (toL v) := by
 cases v <;> first | rfl | (simp [isR] at h)
theorem reps_bss {w : World} {O : Nat → Prop} : ∀ {l : List V} {ds : List Value}, (∀ x ∈ l, isR .bytes x = true) → CReps no O w l ds → ds.length = l.length ∧ ∀ j (hj : j < (l.map toL).length), ∃ A n c, ds[j]? = some (.slice A n c) ∧ Bs w A n c (l.map toL)[j]
 | [], ds, _, h => by cases h; exact ⟨rfl, fun j hj => by simp at hj⟩
 | v :: r, ds, he, h => by
  cases h with
  | cons h1 h2 =>
   obtain ⟨i1, i2⟩ := reps_bss (fun x hx => he x (List.mem_cons_of_mem _ hx)) h2
   have hv := bytes_of (he v (List.mem_cons_self ..))
   rw [hv] at h1
   cases h1 with
   | bytes hb ho =>
    refine ⟨by simp [i1], fun j hj => ?_⟩
    cases j with
    | zero => exact ⟨_, _, _, rfl, hb⟩
    | succ j =>
     obtain ⟨A, n, c, e, hB⟩ := i2 j (by simpa using hj)
     exact ⟨A, n, c, by simpa using e, by simpa using hB⟩
end Go.Proofs.YtfhljcbbgckdiaaGreat