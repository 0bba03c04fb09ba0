/- What the bound on bulk gives. -/
import Derived.Test.YtmenonijbcljdaaRows
import Derived.Test.YtmenonijbcljdaaFrame
namespace Go.Proofs.Ytmenonijbcljdaa
open Go.RowKit Go.Bas

theorem bulk_one {H : Type} (d : DataW H) : 1 ≤ Rows.uptoBulk d := by
  cases d with
  | lit l => cases l <;> simp [Rows.uptoBulk]
  | _ => simp [Rows.uptoBulk]
theorem bulk_part {H : Type} {d : DataW H} : ∀ {l : List (DataW H)}, d ∈ l → Rows.uptoBulk d ≤ Rows.uptoBulkAll l
  | x :: r, h => by
    simp only [Rows.uptoBulkAll]
    rcases List.mem_cons.1 h with rfl | h
    · omega
    · have := bulk_part h; omega
theorem bulk_length {H : Type} : ∀ (l : List (DataW H)), l.length ≤ Rows.uptoBulkAll l
  | [] => by simp
  | x :: r => by have := bulk_one x; have := bulk_length r; simp only [Rows.uptoBulkAll, List.length_cons]; omega
theorem bytes_bulk {H : Type} {W : World} {ds : List (DataW H)} (hk : Rows.uptoSmall H (ds ++ []) = true) {j : Nat} {d : DataW H} (hd : ds[j]? = some d)
    {A : Option Addr} {n c : Nat} {l : List UInt8} (hbs : Bs W A n c l) (h : d = .nil ∧ n = 0 ∧ c = 0 ∨ ∃ elems spare, d = .slice elems spare ∧ elems.length + spare.length = c) : n ≤ 1048576 := by
  have hc := hbs.cap
  have h0 : Rows.uptoBulkAll ds ≤ 1048576 := by
    rw [List.append_nil] at hk
    exact of_decide_eq_true hk
  rcases h with ⟨_, rfl, _⟩ | ⟨elems, spare, rfl, rfl⟩
  · omega
  · have h1 := bulk_part (List.mem_of_getElem? hd)
    have h2 := bulk_length elems
    have h3 := bulk_length spare
    simp only [Rows.uptoBulk] at h1
    omega
end Go.Proofs.Ytmenonijbcljdaa
