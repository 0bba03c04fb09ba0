/- A slice of parts: a number and bytes, two cells each. -/
import Derived.Test.YthbllfhaaidhjaaBase
namespace Go.Bas
open Go Go.RowKit Go.Mix

/-- A slice of structs of a number and bytes. -/
structure Tls (w : World) (A : Option Addr) (n c : Nat) (L : List (Int × List UInt8)) : Prop where
  len : n = L.length
  cap : n ≤ c
  most : c ≤ 9223372036854775807
  rd : ∀ j (hj : j < L.length), ∃ b off, A = some ⟨b, off, none⟩ ∧ b < w.heap.size ∧ w.cell? ⟨b, off + j * 2, none⟩ = some (.int .i64 (L[j].1)) ∧
    ∃ A' n' c', w.cell? ⟨b, off + j * 2 + 1, none⟩ = some (.slice A' n' c') ∧ Bs w A' n' c' (L[j].2)

theorem Tls.nil (w : World) (c : Nat) (A : Option Addr) (h : c ≤ 9223372036854775807) : Tls w A 0 c [] := ⟨rfl, Nat.zero_le _, h, fun j hj => by simp at hj⟩
theorem Tls.step {w w' : World} {A : Option Addr} {n c : Nat} {L : List (Int × List UInt8)} (h : Tls w A n c L) (hb : Below w.heap.size w w') : Tls w' A n c L :=
  ⟨h.len, h.cap, h.most, fun j hj => by
    obtain ⟨b, off, rfl, hb1, h1, A', n', c', h2, h3⟩ := h.rd j hj
    exact ⟨b, off, rfl, Nat.lt_of_lt_of_le hb1 hb.size, (hb.cell (p := ⟨b, _, none⟩) hb1).trans h1, A', n', c', (hb.cell (p := ⟨b, _, none⟩) hb1).trans h2, h3.step hb⟩⟩
end Go.Bas
