/- What the parts of bytes are, in plain words. -/
import Derived.Test.YtmenonijbcljdaaTlvp
namespace Go.Proofs.Ytmenonijbcljdaa
open Go.RowKit Go.Mix Go.Bas

def parse (l : List UInt8) : Option (List (Int × List UInt8)) :=
  match l with
  | [] => some []
  | [x] => if x = 0 then some [] else none
  | x :: m :: s =>
    if x = 0 then parse (m :: s) else if s.length < m.toNat then none
    else if x = 4 then parse (s.drop m.toNat) else (parse (s.drop m.toNat)).map (((x.toNat : Int), s.take m.toNat) :: ·)
termination_by l.length
decreasing_by all_goals (simp only [List.length_cons, List.length_drop]; omega)

theorem gt_zero {l : List UInt8} {i : Nat} (h : i < l.length) : gt l i = 0 ↔ l[i] = 0 := by
  rw [gt_of_lt h]
  constructor
  · intro e; exact UInt8.toNat_inj.1 (by simpa using e)
  · intro e; rw [e]; rfl
theorem gt_four {l : List UInt8} {i : Nat} (h : i < l.length) : gt l i = 4 ↔ l[i] = 4 := by
  rw [gt_of_lt h]
  constructor
  · intro e; exact UInt8.toNat_inj.1 (by simp; omega)
  · intro e; rw [e]; rfl
theorem parse_end {l : List UInt8} {i : Nat} (h : l.length ≤ i) : parse (l.drop i) = some [] := by
  rw [List.drop_eq_nil_of_le h, parse]
theorem parse_zero {l : List UInt8} {i : Nat} (h : i < l.length) (hz : gt l i = 0) : parse (l.drop i) = parse (l.drop (i + 1)) := by
  have hz' := (gt_zero h).1 hz
  rw [List.drop_eq_getElem_cons h, hz']
  rcases Nat.lt_or_ge (i + 1) l.length with h1 | h1
  · rw [List.drop_eq_getElem_cons h1, parse, if_pos rfl]
  · rw [List.drop_eq_nil_of_le h1, parse, parse, if_pos rfl]
theorem parse_one {l : List UInt8} {i : Nat} (h : i + 1 = l.length) (hz : gt l i ≠ 0) : parse (l.drop i) = none := by
  have hz' := mt (gt_zero (l := l) (i := i) (by omega)).2 hz
  rw [List.drop_eq_getElem_cons (by omega), List.drop_eq_nil_of_le (by omega), parse, if_neg hz']
theorem parse_short {l : List UInt8} {i : Nat} (h : i + 1 < l.length) (hz : gt l i ≠ 0) (hs : (l.length : Int) - i - 2 < gt l (i + 1)) : parse (l.drop i) = none := by
  have hz' := mt (gt_zero (l := l) (i := i) (by omega)).2 hz
  rw [gt_of_lt h] at hs
  rw [List.drop_eq_getElem_cons (by omega), List.drop_eq_getElem_cons h, parse, if_neg hz', if_pos (by simp; omega)]
theorem parse_part {l : List UInt8} {i : Nat} (h : i + 1 < l.length) (hz : gt l i ≠ 0) (hs : ¬ ((l.length : Int) - i - 2 < gt l (i + 1))) :
    parse (l.drop i) = if gt l i = 4 then parse (l.drop (i + 2 + (gt l (i + 1)).toNat)) else (parse (l.drop (i + 2 + (gt l (i + 1)).toNat))).map ((gt l i, (l.drop (i + 2)).take (gt l (i + 1)).toNat) :: ·) := by
  have hz' := mt (gt_zero (l := l) (i := i) (by omega)).2 hz
  rw [gt_of_lt h] at hs ⊢
  have h4 := gt_four (l := l) (i := i) (by omega)
  rw [List.drop_eq_getElem_cons (by omega), List.drop_eq_getElem_cons h, parse, if_neg hz', if_neg (by simp; omega), List.drop_drop, Int.toNat_natCast]
  by_cases h5 : gt l i = 4
  · rw [if_pos h5, if_pos (h4.1 h5)]
  · rw [if_neg h5, if_neg (mt h4.2 h5), gt_of_lt (by omega)]
end Go.Proofs.Ytmenonijbcljdaa
