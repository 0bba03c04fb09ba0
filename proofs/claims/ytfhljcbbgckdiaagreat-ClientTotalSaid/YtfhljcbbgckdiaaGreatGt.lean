/- Part Gt of the proof: laws used by the law of this claim. -/
import Derived.Test.YtfhljcbbgckdiaaGreatGs
set_option linter.all false
namespace Go.Proofs.YtfhljcbbgckdiaaGreat
open Go Go.Am Go.RowKit Go.Mix Go.Bas
set_option maxRecDepth 100000
abbrev shHd : Sh := .agg [.int .i64, .int .i64, .int .i64, .int .i64, .rows (.barr 16), .rows (.agg [.int .i64, .bytes])]
abbrev shH6 : Sh := .agg [.int .i64, .int .i64, .int .i64, .int .i64, .int .i64, .barr 16, .barr 16]
structure H6 where
 (c la ln nx hp : Int)
 (s d : List UInt8)
def H6.v (h : H6) : V := .agg [.int .i64 h.c, .int .i64 h.la, .int .i64 h.ln, .int .i64 h.nx, .int .i64 h.hp, .barr 16 h.s, .barr 16 h.d]
theorem cutL_self {l : List UInt8} (h : l.length = 16) : cutL l 0 16 = l := by
 unfold cutL
 rw [List.drop_zero, List.take_of_length_le (by omega)]
theorem hdX_eq {c la ln nx hp : Int} {s d : List UInt8} (h : okX c la ln nx hp) (hs : s.length = 16) (hd : d.length = 16) : hdX c la ln nx hp s d = hd8 c la ln nx hp ++ (s ++ d) := by
 unfold hdX
 rw [if_pos h, cutL_self hs, cutL_self hd]
structure HdF (x : List UInt8) (c la ln nx hp : Int) (s d r : List UInt8) : Prop where
 e : gE x = 0
 c : gC x = c
 la : gLa x = la
 ln : gLn x = ln
 nx : gNx x = nx
 hp : gHp x = hp
 s : gS x = s
 d : gD x = d
 q : x.drop 40 = r
 l : x.length = 40 + r.length
theorem hd_back {c la ln nx hp : Int} {s d : List UInt8} (h : okX c la ln nx hp) (hs : s.length = 16) (hd : d.length = 16) (r : List UInt8) : HdF (hdX c la ln nx hp s d ++ r) c la ln nx hp s d r := by
 have e0 : hdX c la ln nx hp s d ++ r = hd8 c la ln nx hp ++ (s ++ (d ++ r)) := by rw [hdX_eq h hs hd]; simp
 generalize hdX c la ln nx hp s d ++ r = x at e0
 have h8 : (hd8 c la ln nx hp).length = 8 := rfl
 have hl : x.length = 40 + r.length := by rw [e0, List.length_append, List.length_append, List.length_append, hs, hd, h8]; omega
 obtain ⟨h1, h2, h3, h4, h5⟩ := h
 have k0 : gt x 0 = (96 + c / 16) % 256 := by rw [e0]; exact b8_toNat _
 have k1 : gt x 1 = (c % 16 * 16 + la / 65536) % 256 := by rw [e0]; exact b8_toNat _
 have k2 : gt x 2 = (la / 256) % 256 := by rw [e0]; exact b8_toNat _
 have k3 : gt x 3 = la % 256 := by rw [e0]; exact b8_toNat _
 have k4 : gt x 4 = (ln / 256) % 256 := by rw [e0]; exact b8_toNat _
 have k5 : gt x 5 = ln % 256 := by rw [e0]; exact b8_toNat _
 have k6 : gt x 6 = nx % 256 := by rw [e0]; exact b8_toNat _
 have k7 : gt x 7 = hp % 256 := by rw [e0]; exact b8_toNat _
 have hE : gE x = 0 := by
  unfold gE
  rw [if_neg (by omega), if_neg (by rw [k0]; simp only [ne_eq, Decidable.not_not]; omega)]
 have z : ∀ y, gz x y = y := fun y => if_pos hE
 have zb : ∀ y, gzb x y = y := fun y => if_pos hE
 refine ⟨hE, ?_, ?_, ?_, ?_, ?_, ?_, ?_, ?_, hl⟩
 ·unfold gC; rw [z]; omega
 ·unfold gLa; rw [z]; omega
 ·unfold gLn; rw [z]; omega
 ·unfold gNx; rw [z]; omega
 ·unfold gHp; rw [z]; omega
 ·unfold gS
  rw [zb, e0]
  unfold cutL
  rw [← h8, List.drop_left, show 24 - (hd8 c la ln nx hp).length = s.length by rw [h8, hs], List.take_left]
 ·unfold gD
  rw [zb, e0]
  unfold cutL
  rw [← List.append_assoc, show 24 = (hd8 c la ln nx hp ++ s).length by rw [List.length_append, h8, hs], List.drop_left, show 40 - (hd8 c la ln nx hp ++ s).length = d.length by rw [List.length_append, h8, hs, hd], List.take_left]
 ·rw [e0, ← List.append_assoc, ← List.append_assoc, show 40 = (hd8 c la ln nx hp ++ s ++ d).length by rw [List.length_append, List.length_append, h8, hs, hd], List.drop_left]
end Go.Proofs.YtfhljcbbgckdiaaGreat