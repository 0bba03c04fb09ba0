/- Parts behind the segments of a routing header: what is said of them, in plain words. -/
import Derived.Test.YthbllfhaaidhjaaOctb
namespace Go.Proofs.Ythbllfhaaidhjaa
open Go.RowKit Go.Mix Go.Bas

def can : Int → List (Int × List UInt8) → Int
  | left, [] => if left < 0 then 8 else 0
  | left, p :: r => if p.1 ≤ 0 ∨ 255 < p.1 ∨ p.1 = 4 then 2 else if 255 < p.2.length then 4 else can (if left < 0 then left else left - (2 + p.2.length)) r
def enc : List (Int × List UInt8) → List UInt8
  | [] => []
  | p :: r => b8 p.1 :: b8 p.2.length :: (p.2 ++ enc r)
def padN (m : Nat) : List UInt8 := 4 :: b8 ((m : Int) - 2) :: List.replicate (m - 2) 0
def pad (n : Int) : List UInt8 := if n < 1 then [] else if n = 1 then [0] else padN (if 257 < n then 257 else n.toNat)
def put (L : List (Int × List UInt8)) : List UInt8 × Int := if can 256 L = 0 then (enc L ++ pad ((8 - (enc L).length % 8) % 8), 0) else ([], can 256 L)
def find : List (Int × List UInt8) → Int → Option (List UInt8)
  | [], _ => none
  | p :: r, k => if p.1 = k then some p.2 else find r k

theorem pad_small {n : Int} (h : n < 1) : pad n = [] := by unfold pad; rw [if_pos h]
theorem pad_one : pad 1 = [0] := rfl
theorem pad_mid {m : Nat} (h : 2 ≤ m) (h2 : m ≤ 257) : pad m = padN m := by
  unfold pad
  rw [if_neg (by omega), if_neg (by omega), if_neg (by omega), Int.toNat_natCast]
theorem pad_big {n : Int} (h : 257 ≤ n) : pad n = padN 257 := by
  unfold pad
  rw [if_neg (by omega), if_neg (by omega)]
  split
  · rfl
  · rw [show n.toNat = 257 by omega]
theorem padN_set {m : Nat} (h : 2 ≤ m) : ((List.replicate m (0 : UInt8)).set 0 4).set 1 (b8 ((m : Int) - 2)) = padN m := by
  obtain ⟨k, rfl⟩ : ∃ k, m = k + 2 := ⟨m - 2, by omega⟩
  simp [padN, List.replicate_succ]
theorem padN_grow {m j : Nat} (h : 2 ≤ j) (hj : j < m) (x : UInt8) : (4 :: x :: List.replicate (j - 2) 0) ++ [0] = 4 :: x :: List.replicate (j + 1 - 2) 0 := by
  obtain ⟨k, rfl⟩ : ∃ k, j = k + 2 := ⟨j - 2, by omega⟩
  simp [List.replicate_succ']
theorem pad_len (n : Int) : (pad n).length ≤ 257 := by
  unfold pad
  split
  · simp
  · split
    · simp
    · simp only [padN, List.length_cons, List.length_replicate]
      split <;> omega
theorem can_drop {L : List (Int × List UInt8)} {j : Nat} (hj : j < L.length) (left : Int) : can left (L.drop j) =
    if L[j].1 ≤ 0 ∨ 255 < L[j].1 ∨ L[j].1 = 4 then 2 else if 255 < L[j].2.length then 4 else can (if left < 0 then left else left - (2 + L[j].2.length)) (L.drop (j + 1)) := by
  rw [List.drop_eq_getElem_cons hj, can]
theorem find_drop {L : List (Int × List UInt8)} {j : Nat} (hj : j < L.length) (k : Int) : find (L.drop j) k = if L[j].1 = k then some L[j].2 else find (L.drop (j + 1)) k := by
  rw [List.drop_eq_getElem_cons hj, find]
theorem enc_take {L : List (Int × List UInt8)} {j : Nat} (hj : j < L.length) : enc (L.take (j + 1)) = enc (L.take j) ++ [b8 L[j].1, b8 L[j].2.length] ++ L[j].2 := by
  have h : ∀ (a : List (Int × List UInt8)) (p : Int × List UInt8), enc (a ++ [p]) = enc a ++ [b8 p.1, b8 p.2.length] ++ p.2 := by
    intro a p
    induction a with
    | nil => simp [enc]
    | cons q r ih => simp [enc, ih]
  rw [List.take_succ_eq_append_getElem hj, h]
theorem can_neg : ∀ (L : List (Int × List UInt8)) (left : Int), left < 0 → can left L ≠ 0
  | [], left, h => by rw [can, if_pos h]; decide
  | p :: r, left, h => by
    rw [can]
    split
    · decide
    · split
      · decide
      · exact can_neg r left h
theorem can_len : ∀ (L : List (Int × List UInt8)) (left : Int), can left L = 0 → ((enc L).length : Int) ≤ left
  | [], left, h => by
    rw [can] at h
    split at h
    · cases h
    · simp [enc]; omega
  | p :: r, left, h => by
    rw [can] at h
    split at h
    · cases h
    · split at h
      · cases h
      · split at h
        · exact absurd h (can_neg r left ‹_›)
        · have := can_len r _ h
          simp only [enc, List.length_cons, List.length_append]
          omega
theorem enc_app : ∀ (a b : List (Int × List UInt8)), enc (a ++ b) = enc a ++ enc b
  | [], b => by simp [enc]
  | p :: r, b => by simp [enc, enc_app r b]
theorem enc_len {L : List (Int × List UInt8)} (h : can 256 L = 0) (j : Nat) : (enc (L.take j)).length ≤ 256 := by
  have h1 := can_len L 256 h
  have h2 := enc_app (L.take j) (L.drop j)
  rw [List.take_append_drop] at h2
  rw [h2, List.length_append] at h1
  omega
end Go.Proofs.Ythbllfhaaidhjaa
