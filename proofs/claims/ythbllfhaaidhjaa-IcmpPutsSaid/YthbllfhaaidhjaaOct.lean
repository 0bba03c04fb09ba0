/- The walks of package octets and of its reference: what each call hands back, and that old memory stays as it was. -/
import Derived.Test.YthbllfhaaidhjaaRows
import Derived.Test.YthbllfhaaidhjaaBase
namespace Go.Proofs.Ythbllfhaaidhjaa
open Go.RowKit Go.Mix Go.Bas

def isB (n : Nat) (i k : Int) : Bool := decide (0 ≤ i ∧ 0 ≤ k ∧ i ≤ n ∧ k ≤ n - i)
def u16 (l : List UInt8) (i : Int) : Int × Bool := if 0 ≤ i ∧ i + 2 ≤ l.length then (gt l i.toNat * 256 + gt l (i.toNat + 1), true) else (0, false)
def be32 (l : List UInt8) (i : Nat) : Int := ((gt l i * 256 + gt l (i + 1)) * 256 + gt l (i + 2)) * 256 + gt l (i + 3)
def u32 (l : List UInt8) (i : Int) : Int × Bool := if 0 ≤ i ∧ i + 4 ≤ l.length then (be32 l i.toNat, true) else (0, false)

theorem ret_int {k : IntKind} {a b : Int} (h : a = b) : Ending.returned (.int k a) = .returned (.int k b) := by rw [h]

set_option maxRecDepth 8000 in
set_option maxHeartbeats 400000 in
theorem is_calls (a : Option Addr) (len cap : Nat) (i n : Int) (hl : len ≤ 9223372036854775807) (w : World) :
    Calls Try.prog 115 #[.slice a len cap, .int .i64 i, .int .i64 n] w fun e w' => e = .returned (.bool (isB len i n)) ∧ w = w' := by
  go_enter Try.func115, Try.ntmps115
  go_wp2
  all_goals go_ret
  all_goals refine ⟨congrArg (fun b => Ending.returned (.bool b)) ?_, rfl⟩
  all_goals rw [Bool.eq_iff_iff]; simp [isB]; omega

set_option maxRecDepth 8000 in
set_option maxHeartbeats 400000 in
theorem piece_calls (b off : Nat) (len cap : Nat) (i n : Nat) (hl : cap ≤ 9223372036854775807) (hlc : len ≤ cap) (h3 : i + n ≤ len) (h0 : 0 < n) (w : World) :
    Calls Try.prog 125 #[.slice (some ⟨b, off, none⟩) len cap, .int .i64 i, .int .i64 n] w fun e w' => e = .returned (.slice (some ⟨b, off+i, none⟩) n n) ∧ w = w' := by
  go_enter Try.func125, Try.ntmps125
  go_wp2
  go_ret
  refine ⟨?_, rfl⟩
  simp

set_option maxRecDepth 8000 in
set_option maxHeartbeats 400000 in
/-- nothing of it -/
theorem piece_nothing (A : Option Addr) (len cap : Nat) (i : Nat) (hl : cap ≤ 9223372036854775807) (hlc : len ≤ cap) (h3 : i ≤ len) (w : World) :
    Calls Try.prog 125 #[.slice A len cap, .int .i64 i, .int .i64 0] w fun e w' => (∃ A', e = .returned (.slice A' 0 0)) ∧ w = w' := by
  rcases A with _ | a
  all_goals
    go_enter Try.func125, Try.ntmps125
    go_wp2
    all_goals go_ret
    all_goals exact ⟨⟨_, rfl⟩, rfl⟩

theorem piece_bs (A : Option Addr) (k c : Nat) (l : List UInt8) (i n : Nat) (w : World) (h : Bs w A k c l) (hin : i + n ≤ l.length) :
    Calls Try.prog 125 #[.slice A k c, .int .i64 i, .int .i64 n] w fun e w' => (∃ A2, e = .returned (.slice A2 n n) ∧ Bs w' A2 n n ((l.drop i).take n)) ∧ w = w' := by
  have hc1 := h.cap
  have hc2 := h.most
  have hl := h.len
  rcases Nat.eq_zero_or_pos n with h0 | h0
  · subst h0
    refine (piece_nothing A k c i hc2 hc1 (by omega) w).mono ?_
    rintro e w' ⟨⟨A', rfl⟩, rfl⟩
    exact ⟨⟨A', rfl, by simpa using Bs.nil w 0 A' (by omega)⟩, rfl⟩
  · obtain ⟨b, off, rfl, hb, hc⟩ := h.at_ (by omega)
    refine (piece_calls b off k c i n hc2 hc1 (by omega) h0 w).mono ?_
    rintro e w' ⟨rfl, rfl⟩
    exact ⟨⟨_, rfl, h.cut hin (Nat.le_refl _) (by omega)⟩, rfl⟩

set_option maxRecDepth 8000 in
set_option maxHeartbeats 400000 in
theorem U16_calls (A : Option Addr) (n c : Nat) (l : List UInt8) (i : Int) (w : World) (h : Bs w A n c l) :
    Calls Try.prog 92 #[.slice A n c, .int .i64 i] w fun e w' => e = .returned (.tuple #[.int .i64 (u16 l i).1, .bool (u16 l i).2]) ∧ ∃ n, w' = w.drewN n := by
  obtain rfl := h.len
  have hc1 := h.cap
  have hc2 := h.most
  by_cases hi : 0 ≤ i ∧ i + 2 ≤ l.length
  · have h3 := hi.2
    obtain ⟨i, rfl⟩ := Int.eq_ofNat_of_zero_le hi.1
    obtain ⟨b, off, rfl, hb, hc⟩ := h.at_ (by omega)
    have hx := hc i (by omega)
    have hy := hc (i + 1) (by omega)
    rw [← Nat.add_assoc] at hy
    have hx0 := gt_lo l i
    have hx1 := gt_hi l i
    have hy0 := gt_lo l (i + 1)
    have hy1 := gt_hi l (i + 1)
    have hu : u16 l (i : Int) = (gt l i * 256 + gt l (i + 1), true) := by unfold u16; rw [if_pos hi]; rfl
    rw [hu]
    clear hu hc h hi
    have h4 : ¬ ((i : Int) < 0) := by omega
    have h5 : ¬ ((l.length : Int) - 1 ≤ i) := by omega
    go_enter Try.func92, Try.ntmps92
    go_wp2_with fail
    refine (is_calls _ _ _ _ _ (by omega) _).mono ?_; rintro e w' ⟨rfl, rfl⟩
    have hB : isB l.length (i : Int) 2 = true := by unfold isB; simp; omega
    go_wp2_with fail
    refine (piece_calls b off l.length c i 2 (by omega) (by omega) (by omega) (by omega) _).mono ?_; rintro e w' ⟨rfl, rfl⟩
    go_wp2_with fail
    go_quiet (fail)
    go_wp2
    go_ret2
    refine ⟨?_, _, rfl⟩
    simp [or256 _ _ hx0 (show gt l i < 36028797018963968 by omega) hy0 hy1]
  · have hu : u16 l i = (0, false) := by unfold u16; rw [if_neg hi]
    rw [hu]
    clear hu
    have hB : isB l.length i 2 = false := by unfold isB; simp; omega
    go_enter Try.func92, Try.ntmps92
    go_wp2_with fail
    refine (is_calls _ _ _ _ _ (by omega) _).mono ?_; rintro e w' ⟨rfl, rfl⟩
    go_wp2
    go_ret2
    exact ⟨rfl, 0, rfl⟩

set_option maxRecDepth 8000 in
set_option maxHeartbeats 400000 in
theorem rU16_calls (A : Option Addr) (n c : Nat) (l : List UInt8) (i : Int) (w : World) (h : Bs w A n c l) :
    Calls Try.prog 126 #[.slice A n c, .int .i64 i] w fun e w' => e = .returned (.tuple #[.int .i64 (u16 l i).1, .bool (u16 l i).2]) ∧ ∃ n, w' = w.drewN n := by
  obtain rfl := h.len
  have hc1 := h.cap
  have hc2 := h.most
  by_cases hi : 0 ≤ i ∧ i + 2 ≤ l.length
  · have h3 := hi.2
    obtain ⟨i, rfl⟩ := Int.eq_ofNat_of_zero_le hi.1
    obtain ⟨b, off, rfl, hb, hc⟩ := h.at_ (by omega)
    have hx := hc i (by omega)
    have hy := hc (i + 1) (by omega)
    have hx0 := gt_lo l i
    have hx1 := gt_hi l i
    have hy0 := gt_lo l (i + 1)
    have hy1 := gt_hi l (i + 1)
    have hu : u16 l (i : Int) = (gt l i * 256 + gt l (i + 1), true) := by unfold u16; rw [if_pos hi]; rfl
    rw [hu]
    clear hu hc h hi
    have h4 : ¬ ((i : Int) < 0) := by omega
    have h5 : ¬ ((l.length : Int) - 1 ≤ i) := by omega
    go_enter Try.func126, Try.ntmps126
    go_wp2_with fail
    go_quiet (fail)
    go_wp2
    go_ret2
    exact ⟨rfl, _, rfl⟩
  · have hu : u16 l i = (0, false) := by unfold u16; rw [if_neg hi]
    rw [hu]
    clear hu h
    by_cases h0 : i < 0
    · go_enter Try.func126, Try.ntmps126
      go_wp2
      go_ret2
      exact ⟨rfl, 0, rfl⟩
    · have h1 : (l.length : Int) - 1 ≤ i := by omega
      go_enter Try.func126, Try.ntmps126
      go_wp2
      go_ret2
      exact ⟨rfl, 0, rfl⟩


set_option maxRecDepth 8000 in
set_option maxHeartbeats 400000 in
theorem rU32_calls (A : Option Addr) (n c : Nat) (l : List UInt8) (i : Int) (w : World) (h : Bs w A n c l) (hi1 : i ≤ 9223372036854775807) :
    Calls Try.prog 89 #[.slice A n c, .int .i64 i] w fun e w' => e = .returned (.tuple #[.int .u32 (u32 l i).1, .bool (u32 l i).2]) ∧ ∃ n, w' = w.drewN n := by
  obtain rfl := h.len
  have hc1 := h.cap
  have hc2 := h.most
  by_cases hi : 0 ≤ i ∧ i + 4 ≤ l.length
  · have h3 := hi.2
    obtain ⟨i, rfl⟩ := Int.eq_ofNat_of_zero_le hi.1
    have e1 : u16 l (i : Int) = (gt l i * 256 + gt l (i + 1), true) := by unfold u16; rw [if_pos (by omega)]; rfl
    have e2 : u16 l ((i : Int) + 2) = (gt l (i + 2) * 256 + gt l (i + 3), true) := by
      unfold u16; rw [if_pos (by omega)]
      rw [show ((i : Int) + 2).toNat = i + 2 by omega]
    have hu : u32 l (i : Int) = (be32 l i, true) := by unfold u32; rw [if_pos hi]; rfl
    have g0 := gt_lo l i
    have g1 := gt_hi l i
    have g2 := gt_lo l (i + 1)
    have g3 := gt_hi l (i + 1)
    have g4 := gt_lo l (i + 2)
    have g5 := gt_hi l (i + 2)
    have g6 := gt_lo l (i + 3)
    have g7 := gt_hi l (i + 3)
    have hfin : (gt l i * 256 + gt l (i + 1)) * 65536 + (gt l (i + 2) * 256 + gt l (i + 3)) = be32 l i := by unfold be32; omega
    have Hfin := hid hfin
    have E1 := hid e1
    have E2 := hid e2
    rw [hu]
    clear hu hi hfin e1 e2
    have h4 : ¬ ((i : Int) < 0) := by omega
    have h5 : ¬ ((l.length : Int) - 3 ≤ i) := by omega
    go_enter Try.func89, Try.ntmps89
    go_wp2_with fail
    refine (rU16_calls _ _ _ l _ _ h).mono ?_; rintro e w' ⟨rfl, n1, rfl⟩
    rw [E1.out]
    go_wp2_with fail
    refine (rU16_calls _ _ _ l _ _ (h.drewN _)).mono ?_; rintro e w' ⟨rfl, n2, rfl⟩
    rw [E2.out]
    go_wp2
    go_ret2
    refine ⟨?_, _, rfl⟩
    rw [← Hfin.out]
    rfl
  · have hu : u32 l i = (0, false) := by unfold u32; rw [if_neg hi]
    rw [hu]
    clear hu h
    by_cases h0 : i < 0
    · go_enter Try.func89, Try.ntmps89
      go_wp2
      go_ret2
      exact ⟨rfl, 0, rfl⟩
    · have h1 : (l.length : Int) - 3 ≤ i := by omega
      go_enter Try.func89, Try.ntmps89
      go_wp2
      go_ret2
      exact ⟨rfl, 0, rfl⟩

def acc32 (l : List UInt8) (i : Nat) : Nat → Int
  | 0 => 0
  | k + 1 => acc32 l i k * 256 + gt l (i + k)
theorem acc32_bd (l : List UInt8) (i k : Nat) : 0 ≤ acc32 l i k ∧ acc32 l i k < (256 : Int) ^ k := by
  induction k with
  | zero => exact ⟨by unfold acc32; omega, by simp [acc32]⟩
  | succ k ih =>
    have h1 := gt_lo l (i + k)
    have h2 := gt_hi l (i + k)
    have h3 : (256 : Int) ^ (k + 1) = 256 ^ k * 256 := Int.pow_succ _ _
    unfold acc32
    rw [h3]
    generalize (256 : Int) ^ k = q at *
    omega

set_option maxRecDepth 8000 in
set_option maxHeartbeats 400000 in
theorem U32_calls (A : Option Addr) (n c : Nat) (l : List UInt8) (i : Int) (w : World) (h : Bs w A n c l) :
    Calls Try.prog 88 #[.slice A n c, .int .i64 i] w fun e w' => e = .returned (.tuple #[.int .u32 (u32 l i).1, .bool (u32 l i).2]) ∧ w = w' := by
  obtain rfl := h.len
  have hc1 := h.cap
  have hc2 := h.most
  by_cases hi : 0 ≤ i ∧ i + 4 ≤ l.length
  · have h3 := hi.2
    obtain ⟨i, rfl⟩ := Int.eq_ofNat_of_zero_le hi.1
    obtain ⟨b, off, rfl, hb, hc⟩ := h.at_ (by omega)
    have hu : u32 l (i : Int) = (be32 l i, true) := by unfold u32; rw [if_pos hi]; rfl
    rw [hu]
    have HC := hid hc
    clear hu hi h hc
    have hB : isB l.length (i : Int) 4 = true := by unfold isB; simp; omega
    go_enter Try.func88, Try.ntmps88
    go_wp2_with fail
    refine (is_calls _ _ _ _ _ (by omega) _).mono ?_; rintro e w' ⟨rfl, rfl⟩
    go_wp2_with fail
    refine (piece_calls b off l.length c i 4 (by omega) (by omega) (by omega) (by omega) _).mono ?_; rintro e w' ⟨rfl, rfl⟩
    go_wp2_with fail
    go_loop [6, 17] (fun n k => ∃ j : Nat, j ≤ 4 ∧ k = .int .i64 j ∧ n = .int .u32 (acc32 l i j)) (fun _ k => 4 - (intOf k).toNat)
    case atStart => exact ⟨0, by omega, rfl, rfl⟩
    case round =>
      obtain ⟨j, hj, rfl, rfl⟩ := hrel
      by_cases hlt : j < 4
      · have hx := HC.out (i + j) (by omega)
        rw [← Nat.add_assoc] at hx
        have hx0 := gt_lo l (i + j)
        have hx1 := gt_hi l (i + j)
        have hm := acc32_bd l i j
        have hm1 : acc32 l i j < 16777216 := by
          rcases (by omega : j = 0 ∨ j = 1 ∨ j = 2 ∨ j = 3) with rfl | rfl | rfl | rfl <;> simp at hm <;> omega
        have hm0 := hm.1
        clear hm
        have hlt' : (j : Int) < 4 := by omega
        go_wp2
        go_round
        case rel => exact ⟨j + 1, by omega, by go_num, by rw [or256_u32 _ _ hm0 hm1 hx0 hx1]; rfl⟩
        case measure => simp [intOf]; omega
      · have : j = 4 := by omega
        subst this
        have e4 : acc32 l i 4 = be32 l i := by simp [acc32, be32]
        rw [e4]
        clear hlt hj e4 HC h3
        go_wp2
        go_ret2
        exact ⟨rfl, rfl⟩
  · have hu : u32 l i = (0, false) := by unfold u32; rw [if_neg hi]
    rw [hu]
    clear hu h
    have hB : isB l.length i 4 = false := by unfold isB; simp; omega
    clear hi
    go_enter Try.func88, Try.ntmps88
    go_wp2_with fail
    refine (is_calls _ _ _ _ _ (by omega) _).mono ?_; rintro e w' ⟨rfl, rfl⟩
    go_wp2
    go_ret2
    exact ⟨rfl, rfl⟩

end Go.Proofs.Ythbllfhaaidhjaa
