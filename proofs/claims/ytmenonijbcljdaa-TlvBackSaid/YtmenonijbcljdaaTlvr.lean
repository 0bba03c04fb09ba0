/- Parts that can be, between bytes that are nothing, are parsed as what they were: in plain words. -/
import Derived.Test.YtmenonijbcljdaaTlvq
namespace Go.Proofs.Ytmenonijbcljdaa
open Go.RowKit Go.Mix Go.Bas

theorem parse_cons0 (s : List UInt8) : parse (0 :: s) = parse s := by
  cases s with
  | nil => rw [parse, parse, if_pos rfl]
  | cons m s => rw [parse, if_pos rfl]
theorem parse_data {x m : UInt8} {d s : List UInt8} (hx : x ≠ 0) (hm : m.toNat = d.length) :
    parse (x :: m :: (d ++ s)) = if x = 4 then parse s else (parse s).map (((x.toNat : Int), d) :: ·) := by
  rw [parse, if_neg hx, if_neg (by simp; omega), hm]
  simp
theorem b8_nat {n : Nat} (h : n < 256) : (b8 (n : Int)).toNat = n := by
  have := b8_toNat (n : Int)
  omega
theorem parse_padN {m : Nat} (h : 2 ≤ m) (h2 : m ≤ 257) (s : List UInt8) : parse (padN m ++ s) = parse s := by
  unfold padN
  rw [List.cons_append, List.cons_append, parse_data (by decide) (by
    rw [List.length_replicate, show (m : Int) - 2 = ((m - 2 : Nat) : Int) by omega]; exact b8_nat (by omega)), if_pos rfl]
theorem parse_pad (n : Int) (s : List UInt8) : parse (pad n ++ s) = parse s := by
  unfold pad
  split
  · rfl
  · split
    · exact parse_cons0 s
    · split
      · exact parse_padN (by omega) (by omega) s
      · exact parse_padN (by omega) (by omega) s
theorem parse_enc : ∀ (L : List (Int × List UInt8)) (left : Int) (s : List UInt8), can left L = 0 → parse (enc L ++ s) = (parse s).map (L ++ ·)
  | [], left, s, _ => by simp [enc]
  | p :: r, left, s, h => by
    rw [can] at h
    split at h
    · cases h
    · rename_i hk
      split at h
      · cases h
      · rename_i hl
        have ih := parse_enc r _ s h
        obtain ⟨kd, dt⟩ := p
        dsimp only at hk hl ⊢
        have e1 : ((b8 kd).toNat : Int) = kd := by rw [b8_toNat]; omega
        have n0 : b8 kd ≠ 0 := by intro e; rw [e] at e1; simp at e1; omega
        have n4 : b8 kd ≠ 4 := by intro e; rw [e] at e1; simp at e1; omega
        rw [enc, List.cons_append, List.cons_append, List.append_assoc, parse_data n0 (b8_nat (by dsimp only; omega)), if_neg n4, ih, e1, Option.map_map]
        congr 1
theorem parse_back {L : List (Int × List UInt8)} {left : Int} (h : can left L = 0) (n k m : Int) : parse (pad n ++ (enc L ++ pad k) ++ pad m) = some L := by
  rw [List.append_assoc, parse_pad, List.append_assoc, parse_enc L left _ h, parse_pad]
  have := parse_pad m []
  rw [List.append_nil] at this
  rw [this, parse]
  simp
end Go.Proofs.Ytmenonijbcljdaa
