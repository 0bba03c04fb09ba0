/- Package cksum and its reference: what they compute, in plain words of lists and numbers. -/
import Derived.Test.YthbllfhaaidhjaaBase
namespace Go.Bas

def low (n : Int) : Int := n % 65536
def jn (a b : Int) : Int := if 65535 < low a + low b then low a + low b - 65535 else low a + low b
def nt (s : Int) : Int := 65535 - low s
def upd (check was is : Int) : Int := nt (jn (jn (nt check) (nt was)) is)
def wsum : Int → List UInt8 → Int
  | s, [] => s
  | s, [x] => jn s ((x.toNat : Int) * 256)
  | s, x :: y :: r => wsum (jn s ((x.toNat : Int) * 256 + (y.toNat : Int))) r

theorem low_lo (n : Int) : 0 ≤ low n := by unfold low; omega
theorem low_hi (n : Int) : low n < 65536 := by unfold low; omega
theorem jn_lo (a b : Int) : 0 ≤ jn a b := by
  have := low_lo a; have := low_lo b; unfold jn; split <;> omega
theorem jn_hi (a b : Int) : jn a b < 65536 := by
  have := low_hi a; have := low_hi b; unfold jn; split <;> omega
theorem wsum_lo : ∀ (l : List UInt8) (s : Int), 0 ≤ s → 0 ≤ wsum s l
  | [], s, h => by simpa [wsum] using h
  | [x], s, h => by simp only [wsum]; exact jn_lo _ _
  | x :: y :: r, s, h => by simp only [wsum]; exact wsum_lo r _ (jn_lo _ _)
theorem wsum_hi : ∀ (l : List UInt8) (s : Int), s < 65536 → wsum s l < 65536
  | [], s, h => by simpa [wsum] using h
  | [x], s, h => by simp only [wsum]; exact jn_hi _ _
  | x :: y :: r, s, h => by simp only [wsum]; exact wsum_hi r _ (jn_hi _ _)
theorem wsum_append : ∀ (l : List UInt8) (s : Int) (r : List UInt8), l.length % 2 = 0 → wsum s (l ++ r) = wsum (wsum s l) r
  | [], s, r, _ => rfl
  | [x], s, r, h => by simp at h
  | x :: y :: l, s, r, h => by
    simp only [List.cons_append, wsum]
    exact wsum_append l _ r (by simp at h; omega)
theorem wsum_word {l : List UInt8} {s : Int} {k : Nat} (h : 2 * k + 1 < l.length) : wsum s (l.take (2 * (k + 1))) = jn (wsum s (l.take (2 * k))) (gt l (2 * k) * 256 + gt l (2 * k + 1)) := by
  have e1 : l.take (2 * (k + 1)) = l.take (2 * k) ++ [l[2 * k], l[2 * k + 1]] := by
    rw [show 2 * (k + 1) = 2 * k + 1 + 1 by omega, List.take_succ_eq_append_getElem (by omega), List.take_succ_eq_append_getElem (by omega), List.append_assoc]
    rfl
  rw [e1, wsum_append _ _ _ (by simp; omega), gt_of_lt (by omega), gt_of_lt (by omega)]
  rfl
theorem wsum_last {l : List UInt8} {s : Int} {k : Nat} (h : 2 * k + 1 = l.length) : wsum s l = jn (wsum s (l.take (2 * k))) (gt l (2 * k) * 256) := by
  have e1 : l = l.take (2 * k) ++ [l[2 * k]] := by
    conv => lhs; rw [← List.take_length (l := l), ← h]
    rw [List.take_succ_eq_append_getElem (by omega)]
  conv => lhs; rw [e1]
  rw [wsum_append _ _ _ (by simp; omega), gt_of_lt (by omega)]
  rfl
theorem wsum_pad {l : List UInt8} {s : Int} (h : l.length % 2 = 1) : wsum s (l ++ [0]) = wsum s l := by
  obtain ⟨k, hk⟩ : ∃ k, 2 * k + 1 = l.length := ⟨l.length / 2, by omega⟩
  have e1 : l = l.take (2 * k) ++ [l[2 * k]] := by
    conv => lhs; rw [← List.take_length (l := l), ← hk]
    rw [List.take_succ_eq_append_getElem (by omega)]
  obtain ⟨r, x, e2, hr⟩ : ∃ r x, l = r ++ [x] ∧ r.length = 2 * k := ⟨_, _, e1, by simp; omega⟩
  subst e2
  rw [List.append_assoc, wsum_append r s ([x] ++ [0]) (by omega), wsum_append r s [x] (by omega)]
  simp [wsum]
/-- of some pieces -/
def psum (s : Int) (L : List (List UInt8)) : Int := L.foldl wsum s
theorem psum_take {L : List (List UInt8)} {j : Nat} (h : j < L.length) (s : Int) : psum s (L.take (j + 1)) = wsum (psum s (L.take j)) L[j] := by
  unfold psum
  rw [List.take_succ_eq_append_getElem h, List.foldl_append]
  rfl
theorem psum_lo (L : List (List UInt8)) (s : Int) (h : 0 ≤ s) : 0 ≤ psum s L := by
  unfold psum
  induction L generalizing s with
  | nil => exact h
  | cons l L ih => exact ih _ (wsum_lo l s h)
theorem psum_hi (L : List (List UInt8)) (s : Int) (h : s < 65536) : psum s L < 65536 := by
  unfold psum
  induction L generalizing s with
  | nil => exact h
  | cons l L ih => exact ih _ (wsum_hi l s h)
end Go.Bas
