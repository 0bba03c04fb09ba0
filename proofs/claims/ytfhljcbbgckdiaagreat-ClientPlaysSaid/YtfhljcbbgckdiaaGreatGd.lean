/- Part Gd of the proof: laws used by the law of this claim. -/
import Derived.Test.YtfhljcbbgckdiaaGreatRows
import Derived.JoinedOf
import Derived.KernelRfl
import Derived.Test.YtfhljcbbgckdiaaGreatGa
set_option linter.all false
namespace Go.Bas
open Go Go.RowKit Go.Mix
structure Tls (w : World) (A : Option Addr) (n c : Nat) (L : List (Int × List UInt8)) : Prop where
 len : n = L.length
 cap : n ≤ c
 most : c ≤ 9223372036854775807
 rd : ∀ j (hj : j < L.length), ∃ b off, A = some ⟨b, off, none⟩ ∧ b < w.heap.size ∧ w.cell? ⟨b, off + j * 2, none⟩ = some (.int .i64 (L[j].1)) ∧
  ∃ A' n' c', w.cell? ⟨b, off + j * 2 + 1, none⟩ = some (.slice A' n' c') ∧ Bs w A' n' c' (L[j].2)
theorem Tls.nil (w : World) (c : Nat) (A : Option Addr) (h : c ≤ 9223372036854775807) : Tls w A 0 c [] := ⟨rfl, Nat.zero_le _, h, fun j hj => by simp at hj⟩
theorem Tls.step {w w' : World} {A : Option Addr} {n c : Nat} {L : List (Int × List UInt8)} (h : Tls w A n c L) (hb : Below w.heap.size w w') : Tls w' A n c L :=
 ⟨h.len, h.cap, h.most, fun j hj => by
  obtain ⟨b, off, rfl, hb1, h1, A', n', c', h2, h3⟩ := h.rd j hj
  exact ⟨b, off, rfl, Nat.lt_of_lt_of_le hb1 hb.size, (hb.cell (p := ⟨b, _, none⟩) hb1).trans h1, A', n', c', (hb.cell (p := ⟨b, _, none⟩) hb1).trans h2, h3.step hb⟩⟩
end Go.Bas
namespace Go.Proofs.YtfhljcbbgckdiaaGreat
open Go.RowKit Go.Mix Go.Bas
def isB (n : Nat) (i k : Int) : Bool := decide (0 ≤ i ∧ 0 ≤ k ∧ i ≤ n ∧ k ≤ n - i)
def u16 (l : List UInt8) (i : Int) : Int × Bool := if 0 ≤ i ∧ i + 2 ≤ l.length then (gt l i.toNat * 256 + gt l (i.toNat + 1), true) else (0, false)
def be32 (l : List UInt8) (i : Nat) : Int := ((gt l i * 256 + gt l (i + 1)) * 256 + gt l (i + 2)) * 256 + gt l (i + 3)
def u32 (l : List UInt8) (i : Int) : Int × Bool := if 0 ≤ i ∧ i + 4 ≤ l.length then (be32 l i.toNat, true) else (0, false)
set_option maxRecDepth 8000 in
set_option maxHeartbeats 400000 in
theorem is_calls (a : Option Addr) (len cap : Nat) (i n : Int) (hl : len ≤ 9223372036854775807) (w : World) :
  Calls Tryz.prog 130 #[.slice a len cap, .int .i64 i, .int .i64 n] w fun e w' => e = .returned (.bool (isB len i n)) ∧ w = w' := by
 go_enter Tryz.func130, Tryz.ntmps130
 go_wp2
 all_goals go_ret
 all_goals refine ⟨congrArg (fun b => Ending.returned (.bool b)) ?_, rfl⟩
 all_goals rw [Bool.eq_iff_iff]; simp [isB]; omega
set_option maxRecDepth 8000 in
set_option maxHeartbeats 400000 in
theorem piece_calls (b off : Nat) (len cap : Nat) (i n : Nat) (hl : cap ≤ 9223372036854775807) (hlc : len ≤ cap) (h3 : i + n ≤ len) (h0 : 0 < n) (w : World) :
  Calls Tryz.prog 131 #[.slice (some ⟨b, off, none⟩) len cap, .int .i64 i, .int .i64 n] w fun e w' => e = .returned (.slice (some ⟨b, off+i, none⟩) n n) ∧ w = w' := by
 go_enter Tryz.func131, Tryz.ntmps131
 go_wp2
 go_ret
 refine ⟨?_, rfl⟩
 simp
set_option maxRecDepth 8000 in
set_option maxHeartbeats 400000 in
theorem U16_calls (A : Option Addr) (n c : Nat) (l : List UInt8) (i : Int) (w : World) (h : Bs w A n c l) :
  Calls Tryz.prog 114 #[.slice A n c, .int .i64 i] w fun e w' => e = .returned (.tuple #[.int .i64 (u16 l i).1, .bool (u16 l i).2]) ∧ ∃ n, w' = w.drewN n := by
 obtain rfl := h.len
 have hc1 := h.cap
 have hc2 := h.most
 by_cases hi : 0 ≤ i ∧ i + 2 ≤ l.length
 ·have h3 := hi.2
  obtain ⟨i, rfl⟩ := Int.eq_ofNat_of_zero_le hi.1
  obtain ⟨b, off, rfl, hb, hc⟩ := h.at_ (by omega)
  have hx := hc i (by omega)
  have hy := hc (i + 1) (by omega)
  rw [← Nat.add_assoc] at hy
  have hx0 := gt_lo l i
  have hx1 := gt_hi l i
  have hy0 := gt_lo l (i + 1)
  have hy1 := gt_hi l (i + 1)
  have hu : u16 l (i : Int) = (gt l i * 256 + gt l (i + 1), true) := by unfold u16; rw [if_pos hi]; rfl
  rw [hu]
  clear hu hc h hi
  have h4 : ¬ ((i : Int) < 0) := by omega
  have h5 : ¬ ((l.length : Int) - 1 ≤ i) := by omega
  go_enter Tryz.func114, Tryz.ntmps114
  go_wp2_with fail
  refine (is_calls _ _ _ _ _ (by omega) _).mono ?_; rintro e w' ⟨rfl, rfl⟩
  have hB : isB l.length (i : Int) 2 = true := by unfold isB; simp; omega
  go_wp2_with fail
  refine (piece_calls b off l.length c i 2 (by omega) (by omega) (by omega) (by omega) _).mono ?_; rintro e w' ⟨rfl, rfl⟩
  go_wp2_with fail
  go_quiet (fail)
  go_wp2
  go_ret2
  refine ⟨?_, _, rfl⟩
  simp [or256 _ _ hx0 (show gt l i < 36028797018963968 by omega) hy0 hy1]
 ·have hu : u16 l i = (0, false) := by unfold u16; rw [if_neg hi]
  rw [hu]
  clear hu
  have hB : isB l.length i 2 = false := by unfold isB; simp; omega
  go_enter Tryz.func114, Tryz.ntmps114
  go_wp2_with fail
  refine (is_calls _ _ _ _ _ (by omega) _).mono ?_; rintro e w' ⟨rfl, rfl⟩
  go_wp2
  go_ret2
  exact ⟨rfl, 0, rfl⟩
set_option maxRecDepth 8000 in
set_option maxHeartbeats 400000 in
theorem rU16_calls (A : Option Addr) (n c : Nat) (l : List UInt8) (i : Int) (w : World) (h : Bs w A n c l) :
  Calls Tryz.prog 94 #[.slice A n c, .int .i64 i] w fun e w' => e = .returned (.tuple #[.int .i64 (u16 l i).1, .bool (u16 l i).2]) ∧ ∃ n, w' = w.drewN n := by
 obtain rfl := h.len
 have hc1 := h.cap
 have hc2 := h.most
 by_cases hi : 0 ≤ i ∧ i + 2 ≤ l.length
 ·have h3 := hi.2
  obtain ⟨i, rfl⟩ := Int.eq_ofNat_of_zero_le hi.1
  obtain ⟨b, off, rfl, hb, hc⟩ := h.at_ (by omega)
  have hx := hc i (by omega)
  have hy := hc (i + 1) (by omega)
  have hx0 := gt_lo l i
  have hx1 := gt_hi l i
  have hy0 := gt_lo l (i + 1)
  have hy1 := gt_hi l (i + 1)
  have hu : u16 l (i : Int) = (gt l i * 256 + gt l (i + 1), true) := by unfold u16; rw [if_pos hi]; rfl
  rw [hu]
  clear hu hc h hi
  have h4 : ¬ ((i : Int) < 0) := by omega
  have h5 : ¬ ((l.length : Int) - 1 ≤ i) := by omega
  go_enter Tryz.func94, Tryz.ntmps94
  go_wp2_with fail
  go_quiet (fail)
  go_wp2
  go_ret2
  exact ⟨rfl, _, rfl⟩
 ·have hu : u16 l i = (0, false) := by unfold u16; rw [if_neg hi]
  rw [hu]
  clear hu h
  by_cases h0 : i < 0
  ·go_enter Tryz.func94, Tryz.ntmps94
   go_wp2
   go_ret2
   exact ⟨rfl, 0, rfl⟩
  ·have h1 : (l.length : Int) - 1 ≤ i := by omega
   go_enter Tryz.func94, Tryz.ntmps94
   go_wp2
   go_ret2
   exact ⟨rfl, 0, rfl⟩
set_option maxRecDepth 8000 in
set_option maxHeartbeats 400000 in
theorem rU32_calls (A : Option Addr) (n c : Nat) (l : List UInt8) (i : Int) (w : World) (h : Bs w A n c l) (hi1 : i ≤ 9223372036854775807) :
  Calls Tryz.prog 68 #[.slice A n c, .int .i64 i] w fun e w' => e = .returned (.tuple #[.int .u32 (u32 l i).1, .bool (u32 l i).2]) ∧ ∃ n, w' = w.drewN n := by
 obtain rfl := h.len
 have hc1 := h.cap
 have hc2 := h.most
 by_cases hi : 0 ≤ i ∧ i + 4 ≤ l.length
 ·have h3 := hi.2
  obtain ⟨i, rfl⟩ := Int.eq_ofNat_of_zero_le hi.1
  have e1 : u16 l (i : Int) = (gt l i * 256 + gt l (i + 1), true) := by unfold u16; rw [if_pos (by omega)]; rfl
  have e2 : u16 l ((i : Int) + 2) = (gt l (i + 2) * 256 + gt l (i + 3), true) := by
   unfold u16; rw [if_pos (by omega)]
   rw [show ((i : Int) + 2).toNat = i + 2 by omega]
  have hu : u32 l (i : Int) = (be32 l i, true) := by unfold u32; rw [if_pos hi]; rfl
  have g0 := gt_lo l i
  have g1 := gt_hi l i
  have g2 := gt_lo l (i + 1)
  have g3 := gt_hi l (i + 1)
  have g4 := gt_lo l (i + 2)
  have g5 := gt_hi l (i + 2)
  have g6 := gt_lo l (i + 3)
  have g7 := gt_hi l (i + 3)
  have hfin : (gt l i * 256 + gt l (i + 1)) * 65536 + (gt l (i + 2) * 256 + gt l (i + 3)) = be32 l i := by unfold be32; omega
  have Hfin := hid hfin
  have E1 := hid e1
  have E2 := hid e2
  rw [hu]
  clear hu hi hfin e1 e2
  have h4 : ¬ ((i : Int) < 0) := by omega
  have h5 : ¬ ((l.length : Int) - 3 ≤ i) := by omega
  go_enter Tryz.func68, Tryz.ntmps68
  go_wp2_with fail
  refine (rU16_calls _ _ _ l _ _ h).mono ?_; rintro e w' ⟨rfl, n1, rfl⟩
  rw [E1.out]
  go_wp2_with fail
  refine (rU16_calls _ _ _ l _ _ (h.drewN _)).mono ?_; rintro e w' ⟨rfl, n2, rfl⟩
  rw [E2.out]
  go_wp2
  go_ret2
  refine ⟨?_, _, rfl⟩
  rw [← Hfin.out]
  rfl
 ·have hu : u32 l i = (0, false) := by unfold u32; rw [if_neg hi]
  rw [hu]
  clear hu h
  by_cases h0 : i < 0
  ·go_enter Tryz.func68, Tryz.ntmps68
   go_wp2
   go_ret2
   exact ⟨rfl, 0, rfl⟩
  ·have h1 : (l.length : Int) - 3 ≤ i := by omega
   go_enter Tryz.func68, Tryz.ntmps68
   go_wp2
   go_ret2
   exact ⟨rfl, 0, rfl⟩
def acc32 (l : List UInt8) (i : Nat) : Nat → Int
 | 0 => 0
 | k + 1 => acc32 l i k * 256 + gt l (i + k)
theorem acc32_bd (l : List UInt8) (i k : Nat) : 0 ≤ acc32 l i k ∧ acc32 l i k < (256 : Int) ^ k := by
 induction k with
 | zero => exact ⟨by unfold acc32; omega, by simp [acc32]⟩
 | succ k ih =>
  have h1 := gt_lo l (i + k)
  have h2 := gt_hi l (i + k)
  have h3 : (256 : Int) ^ (k + 1) = 256 ^ k * 256 := Int.pow_succ _ _
  unfold acc32
  rw [h3]
  generalize (256 : Int) ^ k = q at *
  omega
set_option maxRecDepth 8000 in
set_option maxHeartbeats 400000 in
theorem U32_calls (A : Option Addr) (n c : Nat) (l : List UInt8) (i : Int) (w : World) (h : Bs w A n c l) :
  Calls Tryz.prog 113 #[.slice A n c, .int .i64 i] w fun e w' => e = .returned (.tuple #[.int .u32 (u32 l i).1, .bool (u32 l i).2]) ∧ w = w' := by
 obtain rfl := h.len
 have hc1 := h.cap
 have hc2 := h.most
 by_cases hi : 0 ≤ i ∧ i + 4 ≤ l.length
 ·have h3 := hi.2
  obtain ⟨i, rfl⟩ := Int.eq_ofNat_of_zero_le hi.1
  obtain ⟨b, off, rfl, hb, hc⟩ := h.at_ (by omega)
  have hu : u32 l (i : Int) = (be32 l i, true) := by unfold u32; rw [if_pos hi]; rfl
  rw [hu]
  have HC := hid hc
  clear hu hi h hc
  have hB : isB l.length (i : Int) 4 = true := by unfold isB; simp; omega
  go_enter Tryz.func113, Tryz.ntmps113
  go_wp2_with fail
  refine (is_calls _ _ _ _ _ (by omega) _).mono ?_; rintro e w' ⟨rfl, rfl⟩
  go_wp2_with fail
  refine (piece_calls b off l.length c i 4 (by omega) (by omega) (by omega) (by omega) _).mono ?_; rintro e w' ⟨rfl, rfl⟩
  go_wp2_with fail
  go_loop [6, 17] (fun n k => ∃ j : Nat, j ≤ 4 ∧ k = .int .i64 j ∧ n = .int .u32 (acc32 l i j)) (fun _ k => 4 - (intOf k).toNat)
  case atStart => exact ⟨0, by omega, rfl, rfl⟩
  case round =>
   obtain ⟨j, hj, rfl, rfl⟩ := hrel
   by_cases hlt : j < 4
   ·have hx := HC.out (i + j) (by omega)
    rw [← Nat.add_assoc] at hx
    have hx0 := gt_lo l (i + j)
    have hx1 := gt_hi l (i + j)
    have hm := acc32_bd l i j
    have hm1 : acc32 l i j < 16777216 := by
     rcases (by omega : j = 0 ∨ j = 1 ∨ j = 2 ∨ j = 3) with rfl | rfl | rfl | rfl <;> simp at hm <;> omega
    have hm0 := hm.1
    clear hm
    have hlt' : (j : Int) < 4 := by omega
    go_wp2
    go_round
    case rel => exact ⟨j + 1, by omega, by go_num, by rw [or256_u32 _ _ hm0 hm1 hx0 hx1]; rfl⟩
    case measure => simp [intOf]; omega
   ·have : j = 4 := by omega
    subst this
    have e4 : acc32 l i 4 = be32 l i := by simp [acc32, be32]
    rw [e4]
    clear hlt hj e4 HC h3
    go_wp2
    go_ret2
    exact ⟨rfl, rfl⟩
 ·have hu : u32 l i = (0, false) := by unfold u32; rw [if_neg hi]
  rw [hu]
  clear hu h
  have hB : isB l.length i 4 = false := by unfold isB; simp; omega
  clear hi
  go_enter Tryz.func113, Tryz.ntmps113
  go_wp2_with fail
  refine (is_calls _ _ _ _ _ (by omega) _).mono ?_; rintro e w' ⟨rfl, rfl⟩
  go_wp2
  go_ret2
  exact ⟨rfl, rfl⟩
def b8 (n : Int) : UInt8 := UInt8.ofNat (n % 256).toNat
theorem b8_toNat (n : Int) : ((b8 n).toNat : Int) = n % 256 := by
 unfold b8
 rw [UInt8.toNat_ofNat']
 omega
theorem bv_b8 (n : Int) : bv (b8 n) = .int .u8 (n % 256) := by unfold bv; rw [b8_toNat]
theorem b8_congr {a b : Int} (h : a % 256 = b % 256) : b8 a = b8 b := by unfold b8; rw [h]
def two (n : Int) : List UInt8 := [b8 (n / 256), b8 n]
def four (n : Int) : List UInt8 := [b8 (n / 16777216), b8 (n / 65536), b8 (n / 256), b8 n]
theorem Tryz.infob : (Tryz.prog.info? 5).map (fun i => (i.zero, i.size, i.bytes)) = some (some (.int .u8 0), 1, 1) := by kernel_rfl
set_option maxRecDepth 8000 in
set_option maxHeartbeats 400000 in
theorem two_calls (n : Int) (w : World) :
  Calls Tryz.prog 103 #[.int .i64 n] w fun e w' => e = .returned (.agg #[.int .u8 (n / 256 % 256), .int .u8 (n % 256)]) ∧ Below w.heap.size w w' := by
 go_enter Tryz.func103, Tryz.ntmps103
 go_wp2
 exact bodyPost_ret (v := .agg #[.int .u8 (n / 256 % 256), .int .u8 (n % 256)]) (by simp [results, Tryz.results103, go_sem]) rfl ⟨rfl, (Below.refl _ _).alloc (Nat.le_refl _) _⟩
theorem two_cells (n : Int) : (#[Value.int .u8 (n / 256 % 256), .int .u8 (n % 256)] : Array Value).toList = (two n).map bv := by
 simp [two, bv_b8]
set_option maxRecDepth 8000 in
set_option maxHeartbeats 400000 in
theorem Put16_calls (base : Nat) (A : Option Addr) (k c : Nat) (l : List UInt8) (n : Int) (w : World) (h : Own w base 5 A k c l) (hb : base ≤ w.heap.size) (hsz : k + 2 ≤ 140737488355328) :
  Calls Tryz.prog 78 #[.slice A k c, .int .i64 n] w fun e w' => ∃ A' n' c', e = .returned (.slice A' n' c') ∧ Own w' base 5 A' n' c' (l ++ two n) ∧ w.grownBy w' (Value.slice A k c).ownBlock := by
 obtain ⟨i0, hi, hz0, hz1, hz2⟩ := info_parts Tryz.infob
 go_enter Tryz.func78, Tryz.ntmps78
 go_wp2_with fail
 refine (two_calls _ _).mono ?_; rintro e w' ⟨rfl, hb'⟩
 have hsz' := hb'.size
 go_wp2_with (at_builtin; refine stop ?_)
 refine Stop.on (wpList_app rfl _ _ 34 rfl 5 i0 Tryz.underlying34 hi hz0 hz1 hz2 base l (two n) rfl rfl (((h.step hb').alloc _).alloc _) (Own.made_at (base := 0) _ _ (two n) _ (by simp) rfl (two_cells n) (by simp [two]) (by simp)).bs hsz (by simp; omega) ?_)
 intro A' n' c' w2 ho hg
 go_wp2
 go_ret
 exact ⟨A', n', c', rfl, ho, ((grown_of_below hb' _).trans ((World.grownBy_alloc _ _ _).trans (World.grownBy_alloc _ _ _))).trans hg⟩
set_option maxRecDepth 8000 in
set_option maxHeartbeats 400000 in
theorem Put32_calls (base : Nat) (A : Option Addr) (k c : Nat) (l : List UInt8) (n : Int) (w : World) (h : Own w base 5 A k c l) (hb : base ≤ w.heap.size) (hsz : k + 4 ≤ 140737488355328) (h0 : 0 ≤ n) (h1 : n < 4294967296) :
  Calls Tryz.prog 125 #[.slice A k c, .int .u32 n] w fun e w' => ∃ A' n' c', e = .returned (.slice A' n' c') ∧ Own w' base 5 A' n' c' (l ++ four n) ∧ w.grownBy w' (Value.slice A k c).ownBlock := by
 obtain ⟨i0, hi, hz0, hz1, hz2⟩ := info_parts Tryz.infob
 have H0 := hid h0
 have H1 := hid h1
 clear h0 h1
 go_enter Tryz.func125, Tryz.ntmps125
 go_wp2_with (at_builtin; refine stop ?_)
 refine Stop.on (wpList_app rfl _ _ 34 rfl 5 i0 Tryz.underlying34 hi hz0 hz1 hz2 base l (four n) rfl rfl (h.alloc _) (Own.made_at (base := 0) _ _ (four n) _ (by simp) rfl (by simp [four, bv_b8]) (by simp [four]) (by simp)).bs hsz (by simp; omega) ?_)
 intro A' n' c' w2 ho hg
 go_wp2
 go_ret
 exact ⟨A', n', c', rfl, ho, (World.grownBy_alloc _ _ _).trans hg⟩
set_option maxRecDepth 8000 in
set_option maxHeartbeats 400000 in
theorem Two_calls (n : Int) (w : World) :
  Calls Tryz.prog 83 #[.int .i64 n] w fun e w' => ∃ A' n' c', e = .returned (.slice A' n' c') ∧ Own w' w.heap.size 5 A' n' c' (two n) ∧ Below w.heap.size w w' := by
 have hand := and_65535 n
 have h0 : 0 ≤ n % 65536 := by omega
 have h1 : n % 65536 < 65536 := by omega
 go_enter Tryz.func83, Tryz.ntmps83
 go_wp2
 go_ret
 refine ⟨_, _, _, rfl, Own.made_at w _ (two n) _ rfl rfl ?_ (by simp [two]) (Nat.le_refl _), (Below.refl _ _).alloc (Nat.le_refl _) _⟩
 simp [two, bv_b8]
 omega
theorem four_eq (n : Int) : two (n / 65536) ++ two (n % 65536) = four n := by
 unfold two four
 rw [show b8 (n / 65536 / 256) = b8 (n / 16777216) from b8_congr (by omega), show b8 (n % 65536 / 256) = b8 (n / 256) from b8_congr (by omega), show b8 (n % 65536) = b8 n from b8_congr (by omega)]
 rfl
set_option maxRecDepth 8000 in
set_option maxHeartbeats 400000 in
theorem Four_calls (n : Int) (w : World) (h0 : 0 ≤ n) (h1 : n < 4294967296) :
  Calls Tryz.prog 84 #[.int .u32 n] w fun e w' => ∃ A' n' c', e = .returned (.slice A' n' c') ∧ Own w' w.heap.size 5 A' n' c' (four n) ∧ Below w.heap.size w w' := by
 obtain ⟨i0, hi, hz0, hz1, hz2⟩ := info_parts Tryz.infob
 go_enter Tryz.func84, Tryz.ntmps84
 go_wp2_with fail
 refine (Two_calls _ _).mono ?_; rintro e w1 ⟨A1, n1, c1, rfl, ho1, hb1⟩
 go_wp2_with fail
 refine (Two_calls _ _).mono ?_; rintro e w2 ⟨A2, n2, c2, rfl, ho2, hb2⟩
 have e1 := ho1.len
 have e2 := ho2.len
 have l1 : n1 ≤ 2 := by rw [e1]; simp [two]
 have l2 : n2 ≤ 2 := by rw [e2]; simp [two]
 clear e1 e2
 have s1 := hb1.size
 have s2 := hb2.size
 go_wp2_with (at_builtin; refine stop ?_)
 refine Stop.on (wpList_app rfl _ _ 34 rfl 5 i0 Tryz.underlying34 hi hz0 hz1 hz2 w.heap.size _ _ rfl rfl (ho1.step hb2) ho2.bs (by omega) (by omega) ?_)
 intro A' n' c' w3 ho hg
 go_wp2
 go_ret
 rw [four_eq] at ho
 exact ⟨A', n', c', rfl, ho, (below_next hb1 hb2).trans (below_grown hg (ho1.step hb2) (Nat.le_refl _) (by omega))⟩
def zeros (l : List UInt8) : Bool := l.all (· == 0)
theorem zeros_false {l : List UInt8} {j : Nat} (h : gt l j ≠ 0) (hj : j < l.length) : zeros l = false := by
 unfold zeros
 rw [List.all_eq_false]
 refine ⟨l[j], List.getElem_mem hj, ?_⟩
 rw [gt_of_lt hj] at h
 simp
 intro e
 rw [e] at h
 exact h rfl
theorem zeros_true {l : List UInt8} (h : ∀ j, j < l.length → gt l j = 0) : zeros l = true := by
 unfold zeros
 rw [List.all_eq_true]
 intro x hx
 obtain ⟨j, hj, rfl⟩ := List.getElem_of_mem hx
 have := h j hj
 rw [gt_of_lt hj] at this
 simp only [beq_iff_eq]
 exact UInt8.toNat_inj.1 (by simpa using this)
set_option maxRecDepth 8000 in
set_option maxHeartbeats 400000 in
theorem Zeros_calls (A : Option Addr) (n c : Nat) (l : List UInt8) (w : World) (h : Bs w A n c l) :
  Calls Tryz.prog 184 #[.slice A n c] w fun e w' => e = .returned (.bool (zeros l)) ∧ w = w' := by
 have hc1 := h.cap
 have hc2 := h.most
 have hle : n ≤ l.length := Nat.le_of_eq h.len
 have hge : l.length ≤ n := Nat.le_of_eq h.len.symm
 have HH := hid h
 clear h
 go_enter Tryz.func184, Tryz.ntmps184
 go_wp2_with fail
 go_loop [7] (fun k => ∃ j : Nat, j ≤ n ∧ k = .int .i64 j ∧ Hid (∀ i, i < j → gt l i = 0)) (fun k => n - (intOf k).toNat)
 case atStart => exact ⟨0, by omega, rfl, fun i hi => by omega⟩
 case round =>
  obtain ⟨j, hj, rfl, hz⟩ := hrel
  by_cases hlt : j < n
  ·obtain ⟨b, off, rfl, hb, hc⟩ := HH.out.at_ (by omega)
   have hx := hc j (by omega)
   have hlt' : (j : Int) < n := by omega
   by_cases h0 : gt l j = 0
   ·have hb0 : (gt l j != 0) = false := by simp [h0]
    have HZ : Hid (∀ i, i < j + 1 → gt l i = 0) := fun i hi => by
     rcases Nat.lt_succ_iff_lt_or_eq.1 hi with h | h
     ·exact hz.out i h
     ·rw [h]; exact h0
    clear h0 hc
    go_wp2
    go_round
    case rel => exact ⟨j + 1, by omega, by go_num, HZ⟩
    case measure => simp [intOf]; omega
   ·have hb0 : (gt l j != 0) = true := by simpa using h0
    have hf := hid (zeros_false h0 (by omega))
    clear h0 hc
    go_wp2
    go_ret
    exact ⟨by rw [hf.out]; rfl, rfl⟩
  ·have hlt' : ¬ ((j : Int) < n) := by omega
   have hf := hid (zeros_true (l := l) fun i hi => hz.out i (by omega))
   go_wp2
   go_ret
   exact ⟨by rw [hf.out]; rfl, rfl⟩
set_option maxRecDepth 8000 in
set_option maxHeartbeats 400000 in
theorem Join_calls (A : Option Addr) (n c : Nat) (L : List (List UInt8)) (w : World) (h : Bss w A n c L) (hsz : L.flatten.length ≤ 140737488355328) :
  Calls Tryz.prog 126 #[.slice A n c] w fun e w' => ∃ A' n' c', e = .returned (.slice A' n' c') ∧ Own w' w.heap.size 5 A' n' c' L.flatten ∧ Below w.heap.size w w' := by
 obtain ⟨i0, hi, hz0, hz1, hz2⟩ := info_parts Tryz.infob
 have hc1 := h.cap
 have hc2 := h.most
 have hle : n ≤ L.length := Nat.le_of_eq h.len
 have hge : L.length ≤ n := Nat.le_of_eq h.len.symm
 have HH := hid h
 clear h
 go_enter Tryz.func126, Tryz.ntmps126
 go_wp2_with fail
 go_loopw [3, 8] (fun o k wr => ∃ (j : Nat) (A' : Option Addr) (n' c' : Nat), j ≤ n ∧ k = .int .i64 j ∧ o = .slice A' n' c' ∧ Own wr w.heap.size 5 A' n' c' (L.take j).flatten ∧ Below w.heap.size w wr) (fun _ k _ => n - (intOf k).toNat)
 case atStart => exact ⟨0, none, 0, 0, by omega, rfl, rfl, Own.nil _ _ _, Below.refl _ _⟩
 case round =>
  obtain ⟨j, A1, n1, c1, hj, rfl, rfl, ho, hb⟩ := hrel
  have hs := hb.size
  by_cases hlt : j < n
  ·have hjL : j < L.length := by omega
   obtain ⟨b, off, rfl, hbl, hc⟩ := HH.out.rd (by intro e; subst e; simp at hjL)
   obtain ⟨A2, n2, c2, hx0, hbs⟩ := hc j hjL
   have hx := (hb.cell (p := ⟨b, off + j, none⟩) hbl).trans hx0
   have hbs' := hbs.below (Nat.le_refl _) hb
   have hlt' : (j : Int) < n := by omega
   have e1 : (L.take j).flatten ++ L[j] = (L.take (j + 1)).flatten := by
    rw [List.take_succ_eq_append_getElem hjL, List.flatten_append]; simp
   have hle2 : (L.take (j + 1)).flatten.length ≤ L.flatten.length := by
    conv => rhs; rw [← List.take_append_drop (j + 1) L, List.flatten_append, List.length_append]
    omega
   have hn1 := ho.len
   have hn2 := hbs.len
   have hsum : n1 + n2 ≤ 140737488355328 := by rw [hn1, hn2, ← List.length_append, e1]; omega
   have E1 := hid e1
   clear hc hbs hx0 e1 hle2 hn1 hn2
   generalize hLj : L[j] = lj at *
   clear hLj
   go_wp2_with (at_builtin; refine stop ?_)
   refine Stop.on (wpList_app rfl _ _ 34 rfl 5 i0 Tryz.underlying34 hi hz0 hz1 hz2 w.heap.size _ lj rfl rfl ho hbs' hsum hs ?_)
   intro A3 n3 c3 w3 ho3 hg3
   have hb3 := hb.trans (below_grown hg3 ho (Nat.le_refl _) hs)
   rw [E1.out] at ho3
   clear hg3 ho hbs' E1
   go_wp2
   go_roundw
   case rel => exact ⟨j + 1, A3, n3, c3, by omega, by go_num, rfl, ho3, hb3⟩
   case measure => simp [intOf]; omega
  ·have hlt' : ¬ ((j : Int) < n) := by omega
   have e1 : (L.take j).flatten = L.flatten := by rw [List.take_of_length_le (by omega)]
   rw [e1] at ho
   clear e1
   go_wp2
   go_ret
   exact ⟨_, _, _, rfl, ho, hb⟩
end Go.Proofs.YtfhljcbbgckdiaaGreat
namespace Go.Mix
open Go Go.RowKit
end Go.Mix
namespace Go.Bas
open Go Go.RowKit Go.Mix
end Go.Bas
namespace Go.Proofs.YtfhljcbbgckdiaaGreat
open Go.RowKit Go.Mix Go.Bas
def can : Int → List (Int × List UInt8) → Int
 | left, [] => if left < 0 then 8 else 0
 | left, p :: r => if p.1 ≤ 0 ∨ 255 < p.1 ∨ p.1 = 4 then 2 else if 255 < p.2.length then 4 else can (if left < 0 then left else left - (2 + p.2.length)) r
def enc : List (Int × List UInt8) → List UInt8
 | [] => []
 | p :: r => b8 p.1 :: b8 p.2.length :: (p.2 ++ enc r)
def padN (m : Nat) : List UInt8 := 4 :: b8 ((m : Int) - 2) :: List.replicate (m - 2) 0
def pad (n : Int) : List UInt8 := if n < 1 then [] else if n = 1 then [0] else padN (if 257 < n then 257 else n.toNat)
def put (L : List (Int × List UInt8)) : List UInt8 × Int := if can 256 L = 0 then (enc L ++ pad ((8 - (enc L).length % 8) % 8), 0) else ([], can 256 L)
def find : List (Int × List UInt8) → Int → Option (List UInt8)
 | [], _ => none
 | p :: r, k => if p.1 = k then some p.2 else find r k
set_option maxRecDepth 8000 in
set_option maxHeartbeats 1000000 in
theorem Clone_calls (A : Option Addr) (n c : Nat) (l : List UInt8) (w : World) (h : Bs w A n c l) (hsz : n ≤ 140737488355328) :
  Calls Tryz.prog 121 #[.slice A n c] w fun e w' => ∃ A' n' c', e = .returned (.slice A' n' c') ∧ Own w' w.heap.size 5 A' n' c' l ∧ Below w.heap.size w w' := by
 obtain ⟨i0, hi, hz0, hz1, hz2⟩ := info_parts Tryz.infob
 cases A with
 | none =>
  obtain rfl : l = [] := by
   rcases Classical.em (l = []) with h0 | h0
   ·exact h0
   ·obtain ⟨b, off, e, _⟩ := h.rd h0
    cases e
  have hq := Lib.run_eql_slice_nil (P := Tryz.prog) w 34 5 none n c 0 0 Tryz.underlying34
  rw [Option.isNone_none] at hq
  go_enter Tryz.func121, Tryz.ntmps121
  go_wp2
  go_ret
  exact ⟨_, _, _, rfl, Own.nil _ _ _, Below.refl _ _⟩
 | some x =>
  have hq := Lib.run_eql_slice_nil (P := Tryz.prog) w 34 5 (some x) n c 0 0 Tryz.underlying34
  rw [Option.isNone_some] at hq
  go_enter Tryz.func121, Tryz.ntmps121
  go_wp2_with (at_builtin; refine stop ?_)
  have ho := Own.made_at (base := w.heap.size) w 5 [] #[] rfl rfl rfl (by simp) (Nat.le_refl _)
  refine Stop.on (wpList_app rfl _ _ 34 rfl 5 i0 Tryz.underlying34 hi hz0 hz1 hz2 w.heap.size [] l rfl rfl ho (h.alloc _) (by simp; omega) (by simp) ?_)
  intro A2 n2 c2 w2 ho2 hg2
  have hb2 : Below w.heap.size w w2 := ((Below.refl _ _).alloc (Nat.le_refl _) _).trans (below_grown hg2 ho (Nat.le_refl _) (by simp))
  rw [List.nil_append] at ho2
  clear hg2 ho hq
  go_wp2
  go_ret
  exact ⟨_, _, _, rfl, ho2, hb2⟩
end Go.Proofs.YtfhljcbbgckdiaaGreat
namespace Go.Bas
def low (n : Int) : Int := n % 65536
def jn (a b : Int) : Int := if 65535 < low a + low b then low a + low b - 65535 else low a + low b
def nt (s : Int) : Int := 65535 - low s
def upd (check was is : Int) : Int := nt (jn (jn (nt check) (nt was)) is)
def wsum : Int → List UInt8 → Int
 | s, [] => s
 | s, [x] => jn s ((x.toNat : Int) * 256)
 | s, x :: y :: r => wsum (jn s ((x.toNat : Int) * 256 + (y.toNat : Int))) r
theorem low_lo (n : Int) : 0 ≤ low n := by unfold low; omega
theorem low_hi (n : Int) : low n < 65536 := by unfold low; omega
theorem jn_lo (a b : Int) : 0 ≤ jn a b := by
 have := low_lo a; have := low_lo b; unfold jn; split <;> omega
theorem jn_hi (a b : Int) : jn a b < 65536 := by
 have := low_hi a; have := low_hi b; unfold jn; split <;> omega
theorem wsum_lo : ∀ (l : List UInt8) (s : Int), 0 ≤ s → 0 ≤ wsum s l
 | [], s, h => by simpa [wsum] using h
 | [x], s, h => by simp only [wsum]; exact jn_lo _ _
 | x :: y :: r, s, h => by simp only [wsum]; exact wsum_lo r _ (jn_lo _ _)
theorem wsum_hi : ∀ (l : List UInt8) (s : Int), s < 65536 → wsum s l < 65536
 | [], s, h => by simpa [wsum] using h
 | [x], s, h => by simp only [wsum]; exact jn_hi _ _
 | x :: y :: r, s, h => by simp only [wsum]; exact wsum_hi r _ (jn_hi _ _)
theorem wsum_append : ∀ (l : List UInt8) (s : Int) (r : List UInt8), l.length % 2 = 0 → wsum s (l ++ r) = wsum (wsum s l) r
 | [], s, r, _ => rfl
 | [x], s, r, h => by simp at h
 | x :: y :: l, s, r, h => by
  simp only [List.cons_append, wsum]
  exact wsum_append l _ r (by simp at h; omega)
theorem wsum_word {l : List UInt8} {s : Int} {k : Nat} (h : 2 * k + 1 < l.length) : wsum s (l.take (2 * (k + 1))) = jn (wsum s (l.take (2 * k))) (gt l (2 * k) * 256 + gt l (2 * k + 1)) := by
 have e1 : l.take (2 * (k + 1)) = l.take (2 * k) ++ [l[2 * k], l[2 * k + 1]] := by
  rw [show 2 * (k + 1) = 2 * k + 1 + 1 by omega, List.take_succ_eq_append_getElem (by omega), List.take_succ_eq_append_getElem (by omega), List.append_assoc]
  rfl
 rw [e1, wsum_append _ _ _ (by simp; omega), gt_of_lt (by omega), gt_of_lt (by omega)]
 rfl
theorem wsum_last {l : List UInt8} {s : Int} {k : Nat} (h : 2 * k + 1 = l.length) : wsum s l = jn (wsum s (l.take (2 * k))) (gt l (2 * k) * 256) := by
 have e1 : l = l.take (2 * k) ++ [l[2 * k]] := by
  conv => lhs; rw [← List.take_length (l := l), ← h]
  rw [List.take_succ_eq_append_getElem (by omega)]
 conv => lhs; rw [e1]
 rw [wsum_append _ _ _ (by simp; omega), gt_of_lt (by omega)]
 rfl
theorem wsum_pad {l : List UInt8} {s : Int} (h : l.length % 2 = 1) : wsum s (l ++ [0]) = wsum s l := by
 obtain ⟨k, hk⟩ : ∃ k, 2 * k + 1 = l.length := ⟨l.length / 2, by omega⟩
 have e1 : l = l.take (2 * k) ++ [l[2 * k]] := by
  conv => lhs; rw [← List.take_length (l := l), ← hk]
  rw [List.take_succ_eq_append_getElem (by omega)]
 obtain ⟨r, x, e2, hr⟩ : ∃ r x, l = r ++ [x] ∧ r.length = 2 * k := ⟨_, _, e1, by simp; omega⟩
 subst e2
 rw [List.append_assoc, wsum_append r s ([x] ++ [0]) (by omega), wsum_append r s [x] (by omega)]
 simp [wsum]
def psum (s : Int) (L : List (List UInt8)) : Int := L.foldl wsum s
theorem psum_take {L : List (List UInt8)} {j : Nat} (h : j < L.length) (s : Int) : psum s (L.take (j + 1)) = wsum (psum s (L.take j)) L[j] := by
 unfold psum
 rw [List.take_succ_eq_append_getElem h, List.foldl_append]
 rfl
theorem psum_lo (L : List (List UInt8)) (s : Int) (h : 0 ≤ s) : 0 ≤ psum s L := by
 unfold psum
 induction L generalizing s with
 | nil => exact h
 | cons l L ih => exact ih _ (wsum_lo l s h)
theorem psum_hi (L : List (List UInt8)) (s : Int) (h : s < 65536) : psum s L < 65536 := by
 unfold psum
 induction L generalizing s with
 | nil => exact h
 | cons l L ih => exact ih _ (wsum_hi l s h)
end Go.Bas
namespace Go.Proofs.YtfhljcbbgckdiaaGreat
open Go.RowKit Go.Mix Go.Bas
theorem u16_at2 {l : List UInt8} {i : Nat} (h : 2 * i + 2 ≤ l.length) : u16 l (2 * (i : Int)) = (gt l (2 * i) * 256 + gt l (2 * i + 1), true) := by
 unfold u16; rw [if_pos (by omega), show (2 * (i : Int)).toNat = 2 * i by omega]
set_option maxRecDepth 8000 in
set_option maxHeartbeats 400000 in
theorem low_calls (n : Int) (w : World) : Calls Tryz.prog 148 #[.int .i64 n] w fun e w' => e = .returned (.int .i64 (low n)) ∧ w = w' := by
 have h := and_65535 n
 go_enter Tryz.func148, Tryz.ntmps148
 go_wp2
 go_ret
 exact ⟨rfl, rfl⟩
set_option maxRecDepth 8000 in
set_option maxHeartbeats 400000 in
theorem mod_calls (n : Int) (w : World) : Calls Tryz.prog 95 #[.int .i64 n] w fun e w' => e = .returned (.int .i64 (low n)) ∧ w = w' := by
 have h := and_65535 n
 go_enter Tryz.func95, Tryz.ntmps95
 go_wp2
 go_ret
 exact ⟨rfl, rfl⟩
set_option maxRecDepth 8000 in
set_option maxHeartbeats 400000 in
theorem jn_calls (a b : Int) (w : World) : Calls Tryz.prog 149 #[.int .i64 a, .int .i64 b] w fun e w' => e = .returned (.int .i64 (jn a b)) ∧ w = w' := by
 have a0 := low_lo a
 have a1 := low_hi a
 have b0 := low_lo b
 have b1 := low_hi b
 by_cases h : 65535 < low a + low b
 ·have e1 : jn a b = low a + low b - 65535 := by unfold jn; rw [if_pos h]
  rw [e1]
  clear e1
  go_enter Tryz.func149, Tryz.ntmps149
  go_wp2_with fail
  refine (low_calls _ _).mono ?_; rintro e w' ⟨rfl, rfl⟩
  go_wp2_with fail
  refine (low_calls _ _).mono ?_; rintro e w' ⟨rfl, rfl⟩
  go_wp2
  go_ret
  exact ⟨rfl, rfl⟩
 ·have e1 : jn a b = low a + low b := by unfold jn; rw [if_neg h]
  rw [e1]
  clear e1
  go_enter Tryz.func149, Tryz.ntmps149
  go_wp2_with fail
  refine (low_calls _ _).mono ?_; rintro e w' ⟨rfl, rfl⟩
  go_wp2_with fail
  refine (low_calls _ _).mono ?_; rintro e w' ⟨rfl, rfl⟩
  go_wp2
  go_ret
  exact ⟨rfl, rfl⟩
set_option maxRecDepth 8000 in
set_option maxHeartbeats 400000 in
theorem rjn_calls (a b : Int) (w : World) : Calls Tryz.prog 65 #[.int .i64 a, .int .i64 b] w fun e w' => e = .returned (.int .i64 (jn a b)) ∧ w = w' := by
 have a0 := low_lo a
 have a1 := low_hi a
 have b0 := low_lo b
 have b1 := low_hi b
 by_cases h : 65535 < low a + low b
 ·have e1 : jn a b = low a + low b - 65535 := by unfold jn; rw [if_pos h]
  rw [e1]
  clear e1
  go_enter Tryz.func65, Tryz.ntmps65
  go_wp2_with fail
  refine (mod_calls _ _).mono ?_; rintro e w' ⟨rfl, rfl⟩
  go_wp2_with fail
  refine (mod_calls _ _).mono ?_; rintro e w' ⟨rfl, rfl⟩
  go_wp2
  go_ret
  exact ⟨rfl, rfl⟩
 ·have e1 : jn a b = low a + low b := by unfold jn; rw [if_neg h]
  rw [e1]
  clear e1
  go_enter Tryz.func65, Tryz.ntmps65
  go_wp2_with fail
  refine (mod_calls _ _).mono ?_; rintro e w' ⟨rfl, rfl⟩
  go_wp2_with fail
  refine (mod_calls _ _).mono ?_; rintro e w' ⟨rfl, rfl⟩
  go_wp2
  go_ret
  exact ⟨rfl, rfl⟩
set_option maxRecDepth 8000 in
set_option maxHeartbeats 400000 in
theorem nt_calls (a : Int) (w : World) : Calls Tryz.prog 143 #[.int .i64 a] w fun e w' => e = .returned (.int .i64 (nt a)) ∧ w = w' := by
 have a0 := low_lo a
 have a1 := low_hi a
 go_enter Tryz.func143, Tryz.ntmps143
 go_wp2_with fail
 refine (low_calls _ _).mono ?_; rintro e w' ⟨rfl, rfl⟩
 go_wp2
 go_ret
 exact ⟨rfl, rfl⟩
set_option maxRecDepth 8000 in
set_option maxHeartbeats 400000 in
theorem rnt_calls (a : Int) (w : World) : Calls Tryz.prog 108 #[.int .i64 a] w fun e w' => e = .returned (.int .i64 (nt a)) ∧ w = w' := by
 have a0 := low_lo a
 have a1 := low_hi a
 go_enter Tryz.func108, Tryz.ntmps108
 go_wp2_with fail
 refine (mod_calls _ _).mono ?_; rintro e w' ⟨rfl, rfl⟩
 go_wp2
 go_ret
 exact ⟨rfl, rfl⟩
set_option maxRecDepth 8000 in
set_option maxHeartbeats 1000000 in
theorem sums_calls (A : Option Addr) (n c : Nat) (L : List (List UInt8)) (w : World) (h : Bss w A n c L) (hsz : ∀ l ∈ L, l.length ≤ 140737488355328) :
  Calls Tryz.prog 154 #[.slice A n c] w fun e w' => e = .returned (.int .i64 (psum 0 L)) ∧ w = w' := by
 have hc1 := h.cap
 have hc2 := h.most
 have hle : n ≤ L.length := Nat.le_of_eq h.len
 have hge : L.length ≤ n := Nat.le_of_eq h.len.symm
 have HH := hid h
 have HSZ := hid hsz
 clear h hsz
 go_enter Tryz.func154, Tryz.ntmps154
 go_wp2_with fail
 go_loop [3, 10] (fun s k => ∃ j : Nat, j ≤ n ∧ k = .int .i64 j ∧ s = .int .i64 (psum 0 (L.take j))) (fun _ k => n - (intOf k).toNat)
 case atStart => exact ⟨0, by omega, rfl, rfl⟩
 case round =>
  obtain ⟨j, hj, rfl, rfl⟩ := hrel
  by_cases hlt : j < n
  ·have hjL : j < L.length := by omega
   obtain ⟨b, off, rfl, hbl, hc⟩ := HH.out.rd (by intro e; subst e; simp at hjL)
   obtain ⟨A2, n2, c2, hx, hbs⟩ := hc j hjL
   have hlt' : (j : Int) < n := by omega
   have e1 := hid (psum_take hjL 0)
   have s0 := psum_lo (L.take j) 0 (by omega)
   have s1 := psum_hi (L.take j) 0 (by omega)
   have d1 := hbs.cap
   have d2 := hbs.most
   have d3 : n2 ≤ 140737488355328 := by rw [hbs.len]; exact HSZ.out _ (List.getElem_mem hjL)
   have dle : n2 ≤ L[j].length := Nat.le_of_eq hbs.len
   have dge : L[j].length ≤ n2 := Nat.le_of_eq hbs.len.symm
   have HB := hid hbs
   clear hc hbs
   generalize psum 0 (L.take j) = sj at *
   generalize hLj : L[j] = l at *
   clear hLj
   go_wp2_with fail
   go_loop [3, 6, 7, 18] (fun s _ _ k => ∃ i : Nat, 2 * i ≤ n2 + 1 ∧ k = .int .i64 i ∧ s = .int .i64 (wsum sj (l.take (2 * i)))) (fun _ _ _ k => n2 + 1 - 2 * (intOf k).toNat)
   case atStart => exact ⟨0, by omega, rfl, by simp [wsum]⟩
   case round =>
    obtain ⟨i, hi, rfl, rfl⟩ := hrel
    by_cases hlt2 : 2 * i < n2
    ·obtain ⟨b2, off2, rfl, hbl2, hc2'⟩ := HB.out.at_ (by omega)
     have hx1 := hc2' (2 * i) (by omega)
     have t1 : (i : Int) < ((n2 : Int) + 1) / 2 := by omega
     have y0 := gt_lo l (2 * i)
     have y1 := gt_hi l (2 * i)
     by_cases hlt3 : 2 * i + 1 < n2
     ·have hx2 := hc2' (2 * i + 1) (by omega)
      have z0 := gt_lo l (2 * i + 1)
      have z1 := gt_hi l (2 * i + 1)
      have hor := or256 (gt l (2 * i)) (gt l (2 * i + 1)) y0 (by omega) z0 z1
      have e2 := hid (wsum_word (s := sj) (l := l) (k := i) (by omega))
      have t2 : 2 * (i : Int) + 1 < n2 := by omega
      clear hc2'
      go_wp2_with fail
      refine (jn_calls _ _ _).mono ?_; rintro e w' ⟨rfl, rfl⟩
      go_wp2
      go_round
      case rel => exact ⟨i + 1, by omega, by go_num, by rw [e2.out]⟩
      case measure => simp [intOf]; omega
     ·have e2 := hid (wsum_last (s := sj) (l := l) (k := i) (by omega))
      have t2 : ¬ (2 * (i : Int) + 1 < n2) := by omega
      clear hc2'
      go_wp2_with fail
      refine (jn_calls _ _ _).mono ?_; rintro e w' ⟨rfl, rfl⟩
      go_wp2
      go_round
      case rel => exact ⟨i + 1, by omega, by go_num, by rw [← e2.out, List.take_of_length_le (by omega)]⟩
      case measure => simp [intOf]; omega
    ·have t1 : ¬ ((i : Int) < ((n2 : Int) + 1) / 2) := by omega
     have e2 : wsum sj (l.take (2 * i)) = wsum sj l := by rw [List.take_of_length_le (by omega)]
     rw [e2]
     clear e2
     go_wp2
     go_round
     case rel => exact ⟨j + 1, by omega, by go_num, by rw [e1.out]⟩
     case measure => simp [intOf]; omega
  ·have hlt' : ¬ ((j : Int) < n) := by omega
   have e1 : L.take j = L := List.take_of_length_le (by omega)
   rw [e1]
   clear e1
   go_wp2
   go_ret
   exact ⟨rfl, rfl⟩
set_option maxRecDepth 8000 in
set_option maxHeartbeats 400000 in
theorem Sum_calls (A : Option Addr) (n c : Nat) (l : List UInt8) (w : World) (h : Bs w A n c l) (hsz : n ≤ 140737488355328) :
  Calls Tryz.prog 151 #[.slice A n c] w fun e w' => e = .returned (.int .i64 (wsum 0 l)) ∧ Below w.heap.size w w' := by
 go_enter Tryz.func151, Tryz.ntmps151
 go_wp2_with fail
 have hss : Bss (w.alloc (.cells #[.slice A n c] 34)) (some ⟨w.heap.size, 0, none⟩) 1 1 [l] :=
  ⟨rfl, Nat.le_refl _, by omega, fun _ => ⟨w.heap.size, 0, rfl, by simp, fun j hj => ⟨A, n, c, by
   have : j = 0 := by simpa using hj
   subst this
   simp, by
   have : j = 0 := by simpa using hj
   subst this
   exact h.alloc _⟩⟩⟩
 refine (sums_calls _ _ _ [l] _ hss (by intro l' hl'; rw [List.mem_singleton.1 hl', ← h.len]; exact hsz)).mono ?_; rintro e w' ⟨rfl, rfl⟩
 go_wp2
 go_ret
 exact ⟨rfl, (Below.refl _ _).alloc (Nat.le_refl _) _⟩
set_option maxRecDepth 8000 in
set_option maxHeartbeats 1000000 in
theorem rSum_calls (A : Option Addr) (n c : Nat) (l : List UInt8) (w : World) (h : Bs w A n c l) (hsz : n ≤ 140737488355327) :
  Calls Tryz.prog 67 #[.slice A n c] w fun e w' => e = .returned (.int .i64 (wsum 0 l)) ∧ Below w.heap.size w w' := by
 obtain ⟨i0, hi, hz0, hz1, hz2⟩ := info_parts Tryz.infob
 have hc1 := h.cap
 have hc2 := h.most
 have hle : n ≤ l.length := Nat.le_of_eq h.len
 have hge : l.length ≤ n := Nat.le_of_eq h.len.symm
 have HH := hid h
 clear h
 go_enter Tryz.func67, Tryz.ntmps67
 by_cases hodd : (n : Int) % 2 = 1
 ·have ho : ((n : Int) % 2 == 1) = true := by simpa using hodd
  go_wp2_with (at_builtin; refine stop ?_)
  have ho := Own.made_at (base := w.heap.size) w 5 [] #[] rfl rfl rfl (by simp) (Nat.le_refl _)
  refine Stop.on (wpList_app rfl _ _ 34 rfl 5 i0 Tryz.underlying34 hi hz0 hz1 hz2 w.heap.size [] l rfl rfl ho (HH.out.alloc _) (by omega) (by simp) ?_)
  intro A1 n1 c1 w1 ho1 hg1
  have hb1 : Below w.heap.size w w1 := ((Below.refl _ _).alloc (Nat.le_refl _) _).trans (below_grown hg1 ho (Nat.le_refl _) (by simp))
  have hs1 := hb1.size
  have hn1 : n1 ≤ n := by have := ho1.len; simp at *; omega
  clear hg1 ho
  go_wp2_with (at_builtin; refine stop ?_)
  have ho1' := ho1.alloc (.cells #[.int .u8 0] 5)
  refine Stop.on (wpList_app rfl _ _ 34 rfl 5 i0 Tryz.underlying34 hi hz0 hz1 hz2 w.heap.size _ [0] rfl rfl ho1' (made_bs _ _ _ _ rfl rfl rfl (by simp)) (by omega) (by simp; omega) ?_)
  intro A2 n2 c2 w2 ho2 hg2
  have hb2 : Below w.heap.size w w2 := (hb1.alloc hs1 _).trans (below_grown hg2 ho1' (Nat.le_refl _) (by simp; omega))
  have hbs2 := ho2.bs
  have HBL := hid hb2
  have HBS := hid hbs2
  have el : [] ++ l ++ [0] = l ++ [(0 : UInt8)] := by simp
  rw [el] at HBS
  have hn2 : n2 = n + 1 := by have := ho2.len; simp at *; omega
  have hev : (l ++ [(0 : UInt8)]).length = n + 1 := by simp; omega
  have hn2a : n2 ≤ n + 1 := by omega
  have hn2b : n + 1 ≤ n2 := by omega
  have EP := hid (wsum_pad (l := l) (s := 0) (by omega))
  have HEV := hid hev
  have hpar : n2 % 2 = 0 := by omega
  have HPAR := hid hpar
  generalize l ++ [(0 : UInt8)] = l2 at *
  clear hg2 ho1 ho1' ho2 hb1 hs1 hb2 hbs2 el hn2 hev hpar
  go_wp2_with fail
  go_loopw [3, 4, 5, 6, 22, 23] (fun s k _ _ _ _ wr => ∃ i : Nat, 2 * i ≤ n2 ∧ k = .int .i64 (2 * (i : Int)) ∧ s = .int .i64 (wsum 0 (l2.take (2 * i))) ∧ Below w.heap.size w wr ∧ Bs wr A2 n2 c2 l2) (fun _ k _ _ _ _ _ => n2 - (intOf k).toNat)
  case atStart => exact ⟨0, by omega, rfl, rfl, HBL.out, HBS.out⟩
  case round =>
   obtain ⟨i, hi2, rfl, rfl, hb, hbs⟩ := hrel
   by_cases hlt : 2 * i < n2
   ·have t1 : 2 * (i : Int) < n2 := by omega
    have EU := hid (u16_at2 (l := l2) (i := i) (by have := hbs.len; omega))
    have e2 := hid (wsum_word (s := 0) (l := l2) (k := i) (by have := hbs.len; omega))
    go_wp2_with fail
    refine (rU16_calls _ _ _ l2 _ _ hbs).mono ?_; rintro e w1 ⟨rfl, q1⟩
    rw [EU.out]
    have hb1 : Below w.heap.size w w1 := hb.trans (below_quiet q1)
    have hbs1 : Bs w1 A2 n2 c2 l2 := hbs.step (below_quiet q1)
    clear q1 hb hbs
    go_wp2_with fail
    refine (rjn_calls _ _ _).mono ?_; rintro e w2 ⟨rfl, rfl⟩
    go_wp2
    go_roundw
    case rel => exact ⟨i + 1, by omega, by congr 1, by rw [e2.out], hb1, hbs1⟩
    case measure => simp [intOf]; omega
   ·have t1 : ¬ (2 * (i : Int) < n2) := by omega
    have e2 : l2.take (2 * i) = l2 := List.take_of_length_le (by have := hbs.len; omega)
    rw [e2]
    clear e2 hbs
    go_wp2
    go_ret
    exact ⟨by rw [EP.out]; rfl, hb⟩
 ·have ho : ((n : Int) % 2 == 1) = false := by simpa using hodd
  have HBL := hid (Below.refl w.heap.size w)
  have HBS := hid HH.out
  go_wp2_with fail
  go_loopw [3, 4, 5, 6, 22, 23] (fun s k _ _ _ _ wr => ∃ i : Nat, 2 * i ≤ n ∧ k = .int .i64 (2 * (i : Int)) ∧ s = .int .i64 (wsum 0 (l.take (2 * i))) ∧ Below w.heap.size w wr ∧ Bs wr A n c l) (fun _ k _ _ _ _ _ => n - (intOf k).toNat)
  case atStart => exact ⟨0, by omega, rfl, rfl, HBL.out, HBS.out⟩
  case round =>
   obtain ⟨i, hi2, rfl, rfl, hb, hbs⟩ := hrel
   by_cases hlt : 2 * i < n
   ·have t1 : 2 * (i : Int) < n := by omega
    have EU := hid (u16_at2 (l := l) (i := i) (by have := hbs.len; omega))
    have e2 := hid (wsum_word (s := 0) (l := l) (k := i) (by have := hbs.len; omega))
    go_wp2_with fail
    refine (rU16_calls _ _ _ l _ _ hbs).mono ?_; rintro e w1 ⟨rfl, q1⟩
    rw [EU.out]
    have hb1 : Below w.heap.size w w1 := hb.trans (below_quiet q1)
    have hbs1 : Bs w1 A n c l := hbs.step (below_quiet q1)
    clear q1 hb hbs
    go_wp2_with fail
    refine (rjn_calls _ _ _).mono ?_; rintro e w2 ⟨rfl, rfl⟩
    go_wp2
    go_roundw
    case rel => exact ⟨i + 1, by omega, by congr 1, by rw [e2.out], hb1, hbs1⟩
    case measure => simp [intOf]; omega
   ·have t1 : ¬ (2 * (i : Int) < n) := by omega
    have e2 : l.take (2 * i) = l := List.take_of_length_le (by have := hbs.len; omega)
    rw [e2]
    clear e2 hbs
    go_wp2
    go_ret
    exact ⟨rfl, hb⟩
def pseudo (src dst : List UInt8) (len next : Int) : Int := wsum 0 (src ++ dst ++ four (len % 4294967296) ++ [0, 0, 0, b8 next])
def both (src dst : List UInt8) (next : Int) (l : List UInt8) : Int := jn (pseudo src dst l.length next) (wsum 0 l)
theorem pseudo_sum (src dst : List UInt8) (len next : Int) (hs : src.length = 16) (hd : dst.length = 16) : psum 0 [src, dst, four (len % 4294967296), [0, 0, 0, b8 next]] = pseudo src dst len next := by
 unfold pseudo psum
 rw [wsum_append _ _ _ (by simp [hs, hd, four]), wsum_append _ _ _ (by simp [hs, hd]), wsum_append _ _ _ (by simp [hs])]
 rfl
theorem fold16 (l : List UInt8) (h : l.length = 16) : (#[bv l[0], bv l[1], bv l[2], bv l[3], bv l[4], bv l[5], bv l[6], bv l[7], bv l[8], bv l[9], bv l[10], bv l[11], bv l[12], bv l[13], bv l[14], bv l[15]] : Array Value) = (l.map bv).toArray := by
 match l, h with
 | [a0, a1, a2, a3, a4, a5, a6, a7, a8, a9, a10, a11, a12, a13, a14, a15], _ => rfl
theorem bss4 {w : World} {T : TypeId} {A0 A1 A2 A3 : Option Addr} {n0 c0 n1 c1 n2 c2 n3 c3 : Nat} {l0 l1 l2 l3 : List UInt8} (b0 : Bs w A0 n0 c0 l0) (b1 : Bs w A1 n1 c1 l1) (b2 : Bs w A2 n2 c2 l2) (b3 : Bs w A3 n3 c3 l3) :
  Bss (w.alloc (.cells #[.slice A0 n0 c0, .slice A1 n1 c1, .slice A2 n2 c2, .slice A3 n3 c3] T)) (some ⟨w.heap.size, 0, none⟩) 4 4 [l0, l1, l2, l3] :=
 ⟨rfl, Nat.le_refl _, by omega, fun _ => ⟨w.heap.size, 0, rfl, by simp, fun j hj => by
  rcases (by simp at hj; omega : j = 0 ∨ j = 1 ∨ j = 2 ∨ j = 3) with rfl | rfl | rfl | rfl
  ·exact ⟨A0, n0, c0, by simp, b0.alloc _⟩
  ·exact ⟨A1, n1, c1, by simp, b1.alloc _⟩
  ·exact ⟨A2, n2, c2, by simp, b2.alloc _⟩
  ·exact ⟨A3, n3, c3, by simp, b3.alloc _⟩⟩⟩
theorem box_bs (w : World) (a : List UInt8) (T : TypeId) {g n : Nat} (hg : g = w.heap.size) (hn : n = a.length) (ha : a.length ≤ 9223372036854775807) : Bs (w.alloc (.cells (a.map bv).toArray T)) (some ⟨g, 0, none⟩) n n a :=
 made_bs w T a _ hg hn rfl ha
set_option maxRecDepth 8000 in
set_option maxHeartbeats 1000000 in
theorem Pseudo_calls (src dst : List UInt8) (len next : Int) (w : World) (hs : src.length = 16) (hd : dst.length = 16) :
  Calls Tryz.prog 150 #[av src, av dst, .int .i64 len, .int .i64 next] w fun e w' => e = .returned (.int .i64 (pseudo src dst len next)) ∧ Below w.heap.size w w' := by
 unfold av
 have bs := (box_bs w src 23 rfl (n := 16) (by omega) (by omega)).alloc (.cells (dst.map bv).toArray 23)
 have bd := box_bs (w.alloc (.cells (src.map bv).toArray 23)) dst 23 (g := w.heap.size + 1) (by simp) (n := 16) (by omega) (by omega)
 have hb0 : Below w.heap.size w ((w.alloc (.cells (src.map bv).toArray 23)).alloc (.cells (dst.map bv).toArray 23)) := ((Below.refl _ _).alloc (Nat.le_refl _) _).alloc (by simp) _
 have HS := hid hs
 have HD := hid hd
 have EP := hid (pseudo_sum src dst len next hs hd)
 clear hs hd
 go_enter Tryz.func150, Tryz.ntmps150
 go_wp2_with fail
 have hl0 : 0 ≤ len % 4294967296 := by omega
 have hl1 := hid (show len % 4294967296 < 4294967296 by omega)
 generalize ((w.alloc (.cells (src.map bv).toArray 23)).alloc (.cells (dst.map bv).toArray 23)) = w0 at *
 have hcs : (#[.int .u8 0, .int .u8 0, .int .u8 0, .int .u8 (next % 256)] : Array Value).toList = [0, 0, 0, b8 next].map bv := by simp only [List.map_cons, List.map_nil, bv_b8]; rfl
 have HCS := hid hcs
 clear hcs
 have hne : Nonempty (SBW w0.heap.size w0) := Cls.ne (SB.refl (Nat.le_refl _))
 refine wp_region_segs (fun w1 => ∃ u : SBW w0.heap.size w0, w1 = u.w) ((0, 0) :: (1, 0) :: (2, 0) :: (3, 0) :: (5, 0) :: (6, 0) :: (4, 2) :: (7, 2) :: (8, 1) :: (9, 1) :: (10, 0) :: []) (by kernel_rfl) (by kernel_rfl) (by kernel_rfl) (by kernel_rfl) (inC (SB.start (Nat.le_refl _))) ?_
 refine seg_held _ rfl ?_; go_big_quiet_step (fail); refine wpQuiet_nil ?_ -- 0 slice
 refine seg_held _ rfl ?_; go_big_quiet_step (fail); refine wpQuiet_nil ?_ -- 1 slice
 refine seg_held _ rfl ?_; go_big_quiet_step (fail); refine wpQuiet_nil ?_ -- 2 move
 refine seg_held _ rfl ?_; go_big_quiet_step (fail); refine wpQuiet_nil ?_ -- 3 convert
 refine seg_held _ rfl ?_; go_big_quiet_step (fail); refine wpQuiet_nil ?_ -- 5 move
 refine seg_held _ rfl ?_; go_big_quiet_step (fail); refine wpQuiet_nil ?_ -- 6 convert
 refine seg_fork _ _ (fun a w2 => ∃ (A : Option Addr) (n c g : Nat), a = { tmps := #[Value.agg (List.map bv src).toArray, Value.agg (List.map bv dst).toArray, Value.int IntKind.i64 len, Value.int IntKind.i64 next, Value.pointer (some ⟨w.heap.size, 0, none⟩), Value.pointer (some ⟨w.heap.size + 1, 0, none⟩), undef, undef, Value.int IntKind.i64 0, Value.slice (some ⟨w.heap.size, 0, none⟩) 16 16, Value.slice (some ⟨w.heap.size + 1, 0, none⟩) 16 16, Value.int IntKind.i64 len, Value.int IntKind.u32 (len % 4294967296), Value.slice A n c, Value.int IntKind.i64 next, Value.int IntKind.u8 (next % 256), Value.slice (some ⟨g, 0, none⟩) 4 4, undef, undef], defers := [] } ∧ Bs w2 A n c (four (len % 4294967296)) ∧ Bs w2 (some ⟨g, 0, none⟩) 4 4 [0, 0, 0, b8 next] ∧ SB w0.heap.size w0 w2) rfl rfl rfl rfl ?_ ?_ ?_
 ·intro K hK
  go_wp2_with fail
  refine (Put32_calls w0.heap.size _ _ _ [] _ w0.drew (Own.nil _ _ _) (Nat.le_refl _) (by omega) hl0 hl1.out).mono ?_; rintro e w1 ⟨A1, n1, c1, rfl, ho1, hg1⟩
  have hq1 : SB w0.heap.size w0 w1 := SB.low (SB.start (Nat.le_refl _)) ((Below.refl _ _).grown hg1 (Nat.le_refl _) (by simp [Value.ownBlock]))
  clear hg1
  go_wp2_with fail
  refine ⟨inC hq1, fun K' hK' => ?_⟩
  go_wp2_with fail
  exact ⟨A1, n1, c1, w1.heap.size, rfl, (ho1.bs.alloc _), made_bs w1 5 [0, 0, 0, b8 next] #[.int .u8 0, .int .u8 0, .int .u8 0, .int .u8 (next % 256)] rfl rfl HCS.out (by simp), hq1.alloc _⟩
 ·intro K hK
  go_wp2_with fail
  refine ⟨inC ((SB.refl (Nat.le_refl _)).alloc _).drew, fun K' hK' => ?_⟩
  go_wp2_with fail
  refine (Put32_calls w0.heap.size _ _ _ [] _ _ (Own.nil _ _ _) (by simp) (by omega) hl0 hl1.out).mono ?_; rintro e w1 ⟨A1, n1, c1, rfl, ho1, hg1⟩
  have hbb : Below (w0.alloc (.cells #[.int .u8 0, .int .u8 0, .int .u8 0, .int .u8 (next % 256)] 5)).drew.heap.size (w0.alloc (.cells #[.int .u8 0, .int .u8 0, .int .u8 0, .int .u8 (next % 256)] 5)).drew w1 := (Below.refl _ _).grown hg1 (Nat.le_refl _) (by simp [Value.ownBlock])
  have hq1 : SB w0.heap.size w0 w1 := ((SB.refl (Nat.le_refl _)).alloc _).drew.step hbb
  have hm := (made_bs w0 5 [0, 0, 0, b8 next] #[.int .u8 0, .int .u8 0, .int .u8 0, .int .u8 (next % 256)] rfl rfl HCS.out (by simp)).drew.step hbb
  clear hg1 hbb
  go_wp2_with fail
  first | exact hK' _ _ ⟨A1, n1, c1, w0.heap.size, rfl, ho1.bs, hm, hq1⟩ | exact hK' _ _ A1 n1 c1 _ rfl ho1.bs hm hq1 | exact hK' _ _ A1 n1 c1 _ ⟨rfl, ho1.bs, hm, hq1⟩
 rintro _ w2 ⟨A, n, c, g, rfl, b2, b3, hq2⟩
 refine ⟨_, fun _ h => h, inC hq2, ?_⟩
 refine seg_loud _ rfl rfl ?_; intro K hK -- 8 buildSlice
 go_wp2_with fail
 refine ⟨_, fun _ h => h, inC (hq2.alloc _), ?_⟩
 refine seg_loud _ rfl rfl ?_; intro K hK -- 9 call harrier/cksum.sum
 go_wp2_with fail
 refine (sums_calls _ _ _ [src, dst, four (len % 4294967296), [0, 0, 0, b8 next]] _ (bss4 (bs.step hq2.1) (bd.step hq2.1) b2 b3) (by simp [HS.out, HD.out, four])).mono ?_
 rintro e w3 ⟨rfl, rfl⟩
 rw [EP.out]
 go_wp2_with fail
 refine ⟨_, fun _ h => h, inC (hq2.alloc _), ?_⟩
 refine seg_held _ rfl ?_; go_big_quiet_step (fail); refine wpQuiet_nil ?_ -- 10 assign
 refine seg_nil ?_
 have hbz := (below_next hb0 hq2.1).alloc (below_next hb0 hq2.1).size (.cells #[.slice (some ⟨w.heap.size, 0, none⟩) 16 16, .slice (some ⟨w.heap.size + 1, 0, none⟩) 16 16, .slice A n c, .slice (some ⟨g, 0, none⟩) 4 4] 34)
 go_wp2
 go_ret
 exact ⟨rfl, hbz⟩
def chk (src dst : List UInt8) (next : Int) (l : List UInt8) : Int := nt (both src dst next l)
set_option maxRecDepth 8000 in
set_option maxHeartbeats 1000000 in
theorem both_calls (src dst : List UInt8) (next : Int) (A : Option Addr) (n c : Nat) (l : List UInt8) (w : World) (hs : src.length = 16) (hd : dst.length = 16) (h : Bs w A n c l) (hsz : n ≤ 140737488355328) :
  Calls Tryz.prog 144 #[av src, av dst, .int .i64 next, .slice A n c] w fun e w' => e = .returned (.int .i64 (both src dst next l)) ∧ Below w.heap.size w w' := by
 have eb : both src dst next l = jn (pseudo src dst n next) (wsum 0 l) := by unfold both; rw [h.len]
 rw [eb]
 clear eb
 have f1 := fold16 src hs
 have f2 := fold16 dst hd
 have hb0 : Below w.heap.size w ((w.alloc (.cells (src.map bv).toArray 23)).alloc (.cells (dst.map bv).toArray 23)) := ((Below.refl _ _).alloc (Nat.le_refl _) _).alloc (by simp) _
 have F1 := hid f1
 have F2 := hid f2
 clear f1 f2
 unfold av
 go_enter Tryz.func144, Tryz.ntmps144
 go_wp2_with fail
 rw [F1.out, F2.out]
 refine (Pseudo_calls src dst n next _ hs hd).mono ?_; rintro e w1 ⟨rfl, hb1⟩
 have hb1' := hb0.trans (hb1.mono (by simp; omega))
 clear hb1 hb0
 go_wp2_with fail
 refine (Sum_calls _ _ _ l _ (h.step hb1') hsz).mono ?_; rintro e w2 ⟨rfl, hb2⟩
 have hb2' := below_next hb1' hb2
 clear hb1' hb2
 go_wp2_with fail
 refine (jn_calls _ _ _).mono ?_; rintro e w3 ⟨rfl, rfl⟩
 go_wp2
 go_ret
 exact ⟨rfl, hb2'⟩
set_option maxRecDepth 8000 in
set_option maxHeartbeats 1000000 in
theorem Check_calls (src dst : List UInt8) (next : Int) (A : Option Addr) (n c : Nat) (l : List UInt8) (w : World) (hs : src.length = 16) (hd : dst.length = 16) (h : Bs w A n c l) (hsz : n ≤ 140737488355328) :
  Calls Tryz.prog 127 #[av src, av dst, .int .i64 next, .slice A n c] w fun e w' => e = .returned (.int .i64 (chk src dst next l)) ∧ Below w.heap.size w w' := by
 have F1 := hid (fold16 src hs)
 have F2 := hid (fold16 dst hd)
 have hb0 : Below w.heap.size w ((w.alloc (.cells (src.map bv).toArray 23)).alloc (.cells (dst.map bv).toArray 23)) := ((Below.refl _ _).alloc (Nat.le_refl _) _).alloc (by simp) _
 unfold av
 go_enter Tryz.func127, Tryz.ntmps127
 go_wp2_with fail
 rw [F1.out, F2.out]
 refine (both_calls src dst next _ _ _ l _ hs hd (h.step hb0) hsz).mono ?_; rintro e w1 ⟨rfl, hb1⟩
 have hb1' := hb0.trans (hb1.mono (by simp; omega))
 clear hb1 hb0
 go_wp2_with fail
 refine (nt_calls _ _).mono ?_; rintro e w3 ⟨rfl, rfl⟩
 go_wp2
 go_ret
 exact ⟨rfl, hb1'⟩
set_option maxRecDepth 8000 in
set_option maxHeartbeats 1000000 in
theorem Fine_calls (src dst : List UInt8) (next : Int) (A : Option Addr) (n c : Nat) (l : List UInt8) (w : World) (hs : src.length = 16) (hd : dst.length = 16) (h : Bs w A n c l) (hsz : n ≤ 140737488355328) :
  Calls Tryz.prog 176 #[av src, av dst, .int .i64 next, .slice A n c] w fun e w' => e = .returned (.bool (both src dst next l == 65535)) ∧ Below w.heap.size w w' := by
 have F1 := hid (fold16 src hs)
 have F2 := hid (fold16 dst hd)
 have hb0 : Below w.heap.size w ((w.alloc (.cells (src.map bv).toArray 23)).alloc (.cells (dst.map bv).toArray 23)) := ((Below.refl _ _).alloc (Nat.le_refl _) _).alloc (by simp) _
 unfold av
 go_enter Tryz.func176, Tryz.ntmps176
 go_wp2_with fail
 rw [F1.out, F2.out]
 refine (both_calls src dst next _ _ _ l _ hs hd (h.step hb0) hsz).mono ?_; rintro e w1 ⟨rfl, hb1⟩
 have hb1' := hb0.trans (hb1.mono (by simp; omega))
 clear hb1 hb0
 go_wp2
 go_ret
 exact ⟨rfl, hb1'⟩
set_option maxRecDepth 8000 in
set_option maxHeartbeats 2000000 in
theorem rPseudo_calls (src dst : List UInt8) (len next : Int) (w : World) (hs : src.length = 16) (hd : dst.length = 16) :
  Calls Tryz.prog 66 #[av src, av dst, .int .i64 len, .int .i64 next] w fun e w' => e = .returned (.int .i64 (pseudo src dst len next)) ∧ Below w.heap.size w w' := by
 obtain ⟨i0, hi, hz0, hz1, hz2⟩ := info_parts Tryz.infob
 have bs := (box_bs w src 23 rfl (n := 16) (by omega) (by omega)).alloc (.cells (dst.map bv).toArray 23)
 have bd := box_bs (w.alloc (.cells (src.map bv).toArray 23)) dst 23 (g := w.heap.size + 1) (by simp) (n := 16) (by omega) (by omega)
 have hb0 : Below w.heap.size w ((w.alloc (.cells (src.map bv).toArray 23)).alloc (.cells (dst.map bv).toArray 23)) := ((Below.refl _ _).alloc (Nat.le_refl _) _).alloc (by simp) _
 have HSS := hid hs
 have HDD := hid hd
 have hl0 : 0 ≤ len % 4294967296 := by omega
 have hl1 := hid (show len % 4294967296 < 4294967296 by omega)
 clear hs hd
 unfold av
 go_enter Tryz.func66, Tryz.ntmps66
 go_wp2_with fail
 generalize hw0 : ((w.alloc (.cells (src.map bv).toArray 23)).alloc (.cells (dst.map bv).toArray 23)) = w0 at *
 have hz : w0.heap.size = w.heap.size + 2 := by subst hw0; simp
 have HZ := hid hz
 clear hw0 hz
 have hs0 := hb0.size
 have HB0 := hid hb0
 have BS := hid bs
 have BD := hid bd
 clear hb0 bs bd
 go_loopw [9, 10] (fun o k wr => ∃ (j : Nat) (A' : Option Addr) (n' c' : Nat), j ≤ 16 ∧ k = .int .i64 j ∧ o = .slice A' n' c' ∧ Own wr w0.heap.size 5 A' n' c' (src.take j) ∧ Below w0.heap.size w0 wr) (fun _ k _ => 16 - (intOf k).toNat)
 case atStart => exact ⟨0, none, 0, 0, by omega, rfl, rfl, Own.nil _ _ _, Below.refl _ _⟩
 case round =>
  obtain ⟨j, A1, n1, c1, hj, rfl, rfl, ho, hb⟩ := hrel
  have hsr := hb.size
  by_cases hlt : j < 16
  ·have t1 : (j : Int) < 16 := by omega
   obtain ⟨b', off', e', hb', hc'⟩ := (BS.out.step hb).at_ (by have := HSS.out; omega)
   injection e' with e'; injection e' with e1 e2; subst e1; subst e2
   have hx := hc' j (by have := HSS.out; omega)
   rw [Nat.zero_add] at hx
   have en : src.take j ++ [b8 (gt src j)] = src.take (j + 1) := by
    rw [List.take_succ_eq_append_getElem (by have := HSS.out; omega), gt_of_lt (by have := HSS.out; omega)]
    congr 2
    exact UInt8.toNat_inj.1 (by have := b8_toNat (src[j]'(by have := HSS.out; omega)).toNat; have := (src[j]'(by have := HSS.out; omega)).toNat_lt; omega)
   have EN := hid en
   have hn1 : n1 ≤ 16 := by have := ho.len; simp at this; omega
   have y0 := gt_lo src j
   have y1 := gt_hi src j
   have hcs : (#[Value.int .u8 (gt src j)] : Array Value).toList = [b8 (gt src j)].map bv := by
    simp only [List.map_cons, List.map_nil, bv_b8]
    rw [show gt src j % 256 = gt src j by omega]
   have HCS := hid hcs
   clear hc' en hcs
   go_wp2_with (at_builtin; refine stop ?_)
   refine Stop.on (wpList_app rfl _ _ 34 rfl 5 i0 Tryz.underlying34 hi hz0 hz1 hz2 w0.heap.size _ [b8 (gt src j)] rfl rfl (ho.alloc _) (made_bs _ _ _ _ rfl rfl HCS.out (by simp)) (by omega) (by simp; omega) ?_)
   intro A3 n3 c3 w3 ho3 hg3
   have hb3 := (hb.alloc hsr _).trans (below_grown hg3 (ho.alloc _) (Nat.le_refl _) (by simp; omega))
   rw [EN.out] at ho3
   clear hg3 ho EN HCS
   go_wp2
   go_roundw
   case rel => exact ⟨j + 1, A3, n3, c3, by omega, by go_num, rfl, ho3, hb3⟩
   case measure => simp [intOf]; omega
  ·have t1 : ¬ ((j : Int) < 16) := by omega
   have e1 : src.take j = src := List.take_of_length_le (by have := HSS.out; omega)
   rw [e1] at ho
   have HO1 := hid ho
   have HB1 := hid hb
   obtain ⟨wb, rfl⟩ : ∃ wb : World, wb = wr := ⟨_, rfl⟩
   clear e1 ho hb hlt
   go_wp2_with fail
   go_loopw [9, 11] (fun o k wr => ∃ (j : Nat) (A' : Option Addr) (n' c' : Nat), j ≤ 16 ∧ k = .int .i64 j ∧ o = .slice A' n' c' ∧ Own wr w0.heap.size 5 A' n' c' (src ++ dst.take j) ∧ Below w0.heap.size w0 wr) (fun _ k _ => 16 - (intOf k).toNat)
   case atStart => exact ⟨0, _, _, _, by omega, rfl, rfl, by simpa using HO1.out, HB1.out⟩
   case round =>
    obtain ⟨j, A1, n1, c1, hj, rfl, rfl, ho, hb⟩ := hrel
    have hsr := hb.size
    by_cases hlt : j < 16
    ·have t1 : (j : Int) < 16 := by omega
     obtain ⟨b', off', e', hb', hc'⟩ := (BD.out.step hb).at_ (by have := HDD.out; omega)
     injection e' with e'; injection e' with e1 e2; subst e1; subst e2
     have hx := hc' j (by have := HDD.out; omega)
     rw [Nat.zero_add] at hx
     have en : src ++ dst.take j ++ [b8 (gt dst j)] = src ++ dst.take (j + 1) := by
      rw [List.append_assoc, List.take_succ_eq_append_getElem (by have := HDD.out; omega), gt_of_lt (by have := HDD.out; omega)]
      congr 3
      exact UInt8.toNat_inj.1 (by have := b8_toNat (dst[j]'(by have := HDD.out; omega)).toNat; have := (dst[j]'(by have := HDD.out; omega)).toNat_lt; omega)
     have EN := hid en
     have hn1 : n1 ≤ 32 := by have := ho.len; have := HSS.out; simp at *; omega
     have y0 := gt_lo dst j
     have y1 := gt_hi dst j
     have hcs : (#[Value.int .u8 (gt dst j)] : Array Value).toList = [b8 (gt dst j)].map bv := by
      simp only [List.map_cons, List.map_nil, bv_b8]
      rw [show gt dst j % 256 = gt dst j by omega]
     have HCS := hid hcs
     clear hc' en hcs
     go_wp2_with (at_builtin; refine stop ?_)
     refine Stop.on (wpList_app rfl _ _ 34 rfl 5 i0 Tryz.underlying34 hi hz0 hz1 hz2 w0.heap.size _ [b8 (gt dst j)] rfl rfl (ho.alloc _) (made_bs _ _ _ _ rfl rfl HCS.out (by simp)) (by omega) (by simp; omega) ?_)
     intro A3 n3 c3 w3 ho3 hg3
     have hb3 := (hb.alloc hsr _).trans (below_grown hg3 (ho.alloc _) (Nat.le_refl _) (by simp; omega))
     rw [EN.out] at ho3
     clear hg3 ho EN HCS
     go_wp2
     go_roundw
     case rel => exact ⟨j + 1, A3, n3, c3, by omega, by go_num, rfl, ho3, hb3⟩
     case measure => simp [intOf]; omega
    ·have t1 : ¬ ((j : Int) < 16) := by omega
     have e1 : dst.take j = dst := List.take_of_length_le (by have := HDD.out; omega)
     rw [e1] at ho
     clear e1
     have hn1 : n1 ≤ 32 := by have := ho.len; have := HSS.out; have := HDD.out; simp at *; omega
     go_wp2_with fail
     refine (Four_calls _ _ hl0 hl1.out).mono ?_; rintro e w4 ⟨A4, n4, c4, rfl, ho4, hb4⟩
     have hn4 : n4 ≤ 4 := by have := ho4.len; simp [four] at this; omega
     have ho' := ho.step hb4
     have hb5 := below_next hb hb4
     have hs5 := hb5.size
     clear hb4 hb ho hsr
     go_wp2_with (at_builtin; refine stop ?_)
     refine Stop.on (wpList_app rfl _ _ 34 rfl 5 i0 Tryz.underlying34 hi hz0 hz1 hz2 w0.heap.size _ _ rfl rfl ho' ho4.bs (by omega) hs5 ?_)
     intro A6 n6 c6 w6 ho6 hg6
     have hb6 := hb5.trans (below_grown hg6 ho' (Nat.le_refl _) hs5)
     have hs6 := hb6.size
     have hn6 : n6 ≤ 36 := by have := ho6.len; have := HSS.out; have := HDD.out; simp [four] at *; omega
     have hcs : (#[.int .u8 0, .int .u8 0, .int .u8 0, .int .u8 (next % 256)] : Array Value).toList = [0, 0, 0, b8 next].map bv := by simp only [List.map_cons, List.map_nil, bv_b8]; rfl
     have HCS := hid hcs
     clear hg6 ho' ho4 hb5 hs5 hcs
     go_wp2_with (at_builtin; refine stop ?_)
     refine Stop.on (wpList_app rfl _ _ 34 rfl 5 i0 Tryz.underlying34 hi hz0 hz1 hz2 w0.heap.size _ [0, 0, 0, b8 next] rfl rfl (ho6.alloc _) (made_bs _ _ _ _ rfl rfl HCS.out (by simp)) (by omega) (by simp; omega) ?_)
     intro A7 n7 c7 w7 ho7 hg7
     have hb7 := (hb6.alloc hs6 _).trans (below_grown hg7 (ho6.alloc _) (Nat.le_refl _) (by simp; omega))
     have hn7 : n7 ≤ 40 := by have := ho7.len; have := HSS.out; have := HDD.out; simp [four] at *; omega
     clear hg7 ho6 HCS hb6
     go_wp2_with fail
     refine (rSum_calls _ _ _ _ _ ho7.bs (by omega)).mono ?_; rintro e w8 ⟨rfl, hb8⟩
     rw [show wsum 0 (src ++ dst ++ four (len % 4294967296) ++ [0, 0, 0, b8 next]) = pseudo src dst len next from rfl]
     have hb9 := below_next (HB0.out.trans (hb7.mono hs0)) hb8
     clear hb8 hb7 ho7
     go_wp2
     go_ret
     exact ⟨rfl, hb9⟩
set_option maxRecDepth 8000 in
set_option maxHeartbeats 1000000 in
theorem rCheck_calls (src dst : List UInt8) (next : Int) (A : Option Addr) (n c : Nat) (l : List UInt8) (w : World) (hs : src.length = 16) (hd : dst.length = 16) (h : Bs w A n c l) (hsz : n ≤ 140737488355327) :
  Calls Tryz.prog 85 #[av src, av dst, .int .i64 next, .slice A n c] w fun e w' => e = .returned (.int .i64 (chk src dst next l)) ∧ Below w.heap.size w w' := by
 have eb : chk src dst next l = nt (jn (pseudo src dst n next) (wsum 0 l)) := by unfold chk both; rw [h.len]
 rw [eb]
 clear eb
 have F1 := hid (fold16 src hs)
 have F2 := hid (fold16 dst hd)
 have hb0 : Below w.heap.size w ((w.alloc (.cells (src.map bv).toArray 23)).alloc (.cells (dst.map bv).toArray 23)) := ((Below.refl _ _).alloc (Nat.le_refl _) _).alloc (by simp) _
 unfold av
 go_enter Tryz.func85, Tryz.ntmps85
 go_wp2_with fail
 rw [F1.out, F2.out]
 refine (rPseudo_calls src dst n next _ hs hd).mono ?_; rintro e w1 ⟨rfl, hb1⟩
 have hb1' := hb0.trans (hb1.mono (by simp; omega))
 clear hb1 hb0
 go_wp2_with fail
 refine (rSum_calls _ _ _ l _ (h.step hb1') hsz).mono ?_; rintro e w2 ⟨rfl, hb2⟩
 have hb2' := below_next hb1' hb2
 clear hb1' hb2
 go_wp2_with fail
 refine (rjn_calls _ _ _).mono ?_; rintro e w3 ⟨rfl, rfl⟩
 go_wp2_with fail
 refine (rnt_calls _ _).mono ?_; rintro e w3 ⟨rfl, rfl⟩
 go_wp2
 go_ret
 exact ⟨rfl, hb2'⟩
set_option maxRecDepth 8000 in
set_option maxHeartbeats 1000000 in
theorem rFine_calls (src dst : List UInt8) (next : Int) (A : Option Addr) (n c : Nat) (l : List UInt8) (w : World) (hs : src.length = 16) (hd : dst.length = 16) (h : Bs w A n c l) (hsz : n ≤ 140737488355327) :
  Calls Tryz.prog 38 #[av src, av dst, .int .i64 next, .slice A n c] w fun e w' => e = .returned (.bool (both src dst next l == 65535)) ∧ Below w.heap.size w w' := by
 have eb : both src dst next l = jn (pseudo src dst n next) (wsum 0 l) := by unfold both; rw [h.len]
 rw [eb]
 clear eb
 have F1 := hid (fold16 src hs)
 have F2 := hid (fold16 dst hd)
 have hb0 : Below w.heap.size w ((w.alloc (.cells (src.map bv).toArray 23)).alloc (.cells (dst.map bv).toArray 23)) := ((Below.refl _ _).alloc (Nat.le_refl _) _).alloc (by simp) _
 unfold av
 go_enter Tryz.func38, Tryz.ntmps38
 go_wp2_with fail
 rw [F1.out, F2.out]
 refine (rPseudo_calls src dst n next _ hs hd).mono ?_; rintro e w1 ⟨rfl, hb1⟩
 have hb1' := hb0.trans (hb1.mono (by simp; omega))
 clear hb1 hb0
 go_wp2_with fail
 refine (rSum_calls _ _ _ l _ (h.step hb1') hsz).mono ?_; rintro e w2 ⟨rfl, hb2⟩
 have hb2' := below_next hb1' hb2
 clear hb1' hb2
 go_wp2_with fail
 refine (rjn_calls _ _ _).mono ?_; rintro e w3 ⟨rfl, rfl⟩
 go_wp2
 go_ret
 exact ⟨rfl, hb2'⟩
def red (t : Int) : Int := if t = 0 then 0 else (t - 1) % 65535 + 1
def tot : List UInt8 → Int
 | [] => 0
 | [x] => (x.toNat : Int) * 256
 | x :: y :: r => (x.toNat : Int) * 256 + (y.toNat : Int) + tot r
theorem tot_lo : ∀ l : List UInt8, 0 ≤ tot l
 | [] => by simp [tot]
 | [x] => by simp only [tot]; omega
 | x :: y :: r => by have := tot_lo r; simp only [tot]; omega
theorem jn_red (t b : Int) (ht : 0 ≤ t) (h0 : 0 ≤ b) (h1 : b < 65536) : jn (red t) b = red (t + b) := by
 unfold jn low red
 by_cases h : t = 0
 ·subst h; simp only [if_true]; by_cases hb : b = 0
  ·subst hb; simp
  ·rw [if_neg (by omega), if_neg (by omega)]; omega
 ·rw [if_neg h]
  rw [if_neg (show ¬ t + b = 0 by omega)]
  split <;> omega
theorem red_hi (t : Int) : red t < 65536 := by unfold red; split <;> omega
theorem red_lo (t : Int) (_h : 0 ≤ t) : 0 ≤ red t := by unfold red; split <;> omega
theorem red_red (t u : Int) (ht : 0 ≤ t) (hu : 0 ≤ u) : red (t + red u) = red (t + u) := by
 unfold red
 by_cases h : u = 0
 ·subst h; simp
 ·rw [if_neg h, if_neg (show ¬ t + u = 0 by omega), if_neg (by omega)]; omega
theorem wsum_red : ∀ (l : List UInt8) (t : Int), 0 ≤ t → wsum (red t) l = red (t + tot l)
 | [], t, _ => by simp [wsum, tot]
 | [x], t, h => by
  have := x.toNat_lt
  simp only [wsum, tot]
  exact jn_red _ _ h (by omega) (by omega)
 | x :: y :: r, t, h => by
  have := x.toNat_lt
  have := y.toNat_lt
  simp only [wsum, tot]
  rw [jn_red _ _ h (by omega) (by omega), wsum_red r _ (by omega)]
  congr 1
  omega
theorem wsum_tot (l : List UInt8) : wsum 0 l = red (tot l) := by
 have := wsum_red l 0 (Int.le_refl _)
 simpa [red] using this
theorem tot_append : ∀ (a r : List UInt8), a.length % 2 = 0 → tot (a ++ r) = tot a + tot r
 | [], r, _ => by simp [tot]
 | [x], r, h => by simp at h
 | x :: y :: a, r, h => by
  simp only [List.cons_append, tot]
  rw [tot_append a r (by simp at h; omega)]
  omega
theorem tot_two (n : Int) (r : List UInt8) : tot (two n ++ r) = n % 65536 + tot r := by
 simp only [two, List.cons_append, List.nil_append, tot, b8_toNat]
 omega
theorem tot_split {l : List UInt8} {i : Nat} (hi : i + 2 ≤ l.length) (he : i % 2 = 0) : tot l = tot (l.take i) + (gt l i * 256 + gt l (i + 1)) + tot (l.drop (i + 2)) := by
 have e1 : l = l.take i ++ (l[i] :: l[i + 1] :: l.drop (i + 2)) := by
  conv => lhs; rw [← List.take_append_drop i l]
  congr 1
  rw [List.drop_eq_getElem_cons (by omega), List.drop_eq_getElem_cons (by omega)]
 conv => lhs; rw [e1]
 rw [tot_append _ _ (by simp; omega), gt_of_lt (by omega), gt_of_lt (by omega)]
 simp only [tot]
 omega
theorem tot_set {l : List UInt8} {i : Nat} (hi : i + 2 ≤ l.length) (he : i % 2 = 0) (n : Int) :
  tot (l.take i ++ (two n ++ l.drop (i + 2))) = tot l - (gt l i * 256 + gt l (i + 1)) + n % 65536 := by
 rw [tot_append _ _ (by simp; omega), tot_two, tot_split hi he]
 omega
theorem fine_law (src dst : List UInt8) (next : Int) (l : List UInt8) (i : Nat) (hi : i + 2 ≤ l.length) (he : i % 2 = 0) (hz0 : gt l i = 0) (hz1 : gt l (i + 1) = 0) :
  both src dst next (l.take i ++ (two (chk src dst next l) ++ l.drop (i + 2))) = 65535 := by
 have h1 := tot_set hi he (chk src dst next l)
 have hlen : (l.take i ++ (two (chk src dst next l) ++ l.drop (i + 2))).length = l.length := by simp [two]; omega
 unfold both
 rw [hlen]
 have hb : both src dst next l = red (tot (src ++ dst ++ four ((l.length : Int) % 4294967296) ++ [0, 0, 0, b8 next]) + tot l) := by
  unfold both pseudo
  rw [wsum_tot, wsum_tot, jn_red _ _ (tot_lo _) (red_lo _ (tot_lo _)) (red_hi _), red_red _ _ (tot_lo _) (tot_lo _)]
 unfold pseudo
 rw [wsum_tot, wsum_tot, jn_red _ _ (tot_lo _) (red_lo _ (tot_lo _)) (red_hi _), red_red _ _ (tot_lo _) (tot_lo _), h1, hz0, hz1]
 have hc : chk src dst next l = 65535 - both src dst next l := by
  unfold chk nt low
  rw [hb]
  have := red_lo (tot (src ++ dst ++ four ((l.length : Int) % 4294967296) ++ [0, 0, 0, b8 next]) + tot l) (by have := tot_lo (src ++ dst ++ four ((l.length : Int) % 4294967296) ++ [0, 0, 0, b8 next]); have := tot_lo l; omega)
  have := red_hi (tot (src ++ dst ++ four ((l.length : Int) % 4294967296) ++ [0, 0, 0, b8 next]) + tot l)
  omega
 rw [hc, hb]
 have h2 := tot_lo (src ++ dst ++ four ((l.length : Int) % 4294967296) ++ [0, 0, 0, b8 next])
 have h3 := tot_lo l
 generalize tot (src ++ dst ++ four ((l.length : Int) % 4294967296) ++ [0, 0, 0, b8 next]) = p at *
 generalize tot l = t at *
 clear h1 hb hc hlen
 unfold red
 by_cases h0 : p + t = 0
 ·rw [if_pos h0]
  rw [if_neg (by omega)]
  omega
 ·rw [if_neg h0]
  rw [if_neg (by omega)]
  omega
end Go.Proofs.YtfhljcbbgckdiaaGreat
namespace Go.Proofs.YtfhljcbbgckdiaaGreat
open Go
theorem fMay : Tryz.checked.prog.mayEnter = true := by kernel_rfl
theorem fLift : Tryz.checked.prog.liftsFinal = false := by kernel_rfl
theorem fMake : Tryz.checked.prog.make = some .cut := by kernel_rfl
theorem andB {a b : Bool} (h : a = true) (h' : b = true) : (a && b) = true := by rw [h, h']; rfl
end Go.Proofs.YtfhljcbbgckdiaaGreat