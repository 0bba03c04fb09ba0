/- Part Gd of the proof: laws used by the law of this claim. -/
import Derived.Test.YtiiamikkamdjoaaDoorRows
import Derived.JoinedOf
import Derived.KernelRfl
import Derived.Test.YtiiamikkamdjoaaDoorGa
set_option linter.all false
namespace Go.Bas
open Go Go.RowKit Go.Mix

/-- A slice of structs of a number and bytes. -/
structure Tls (w : World) (A : Option Addr) (n c : Nat) (L : List (Int × List UInt8)) : Prop where
  len : n = L.length
  cap : n ≤ c
  most : c ≤ 9223372036854775807
  rd : ∀ j (hj : j < L.length), ∃ b off, A = some ⟨b, off, none⟩ ∧ b < w.heap.size ∧ w.cell? ⟨b, off + j * 2, none⟩ = some (.int .i64 (L[j].1)) ∧
    ∃ A' n' c', w.cell? ⟨b, off + j * 2 + 1, none⟩ = some (.slice A' n' c') ∧ Bs w A' n' c' (L[j].2)

theorem Tls.nil (w : World) (c : Nat) (A : Option Addr) (h : c ≤ 9223372036854775807) : Tls w A 0 c [] := ⟨rfl, Nat.zero_le _, h, fun j hj => by simp at hj⟩
theorem Tls.step {w w' : World} {A : Option Addr} {n c : Nat} {L : List (Int × List UInt8)} (h : Tls w A n c L) (hb : Below w.heap.size w w') : Tls w' A n c L :=
  ⟨h.len, h.cap, h.most, fun j hj => by
    obtain ⟨b, off, rfl, hb1, h1, A', n', c', h2, h3⟩ := h.rd j hj
    exact ⟨b, off, rfl, Nat.lt_of_lt_of_le hb1 hb.size, (hb.cell (p := ⟨b, _, none⟩) hb1).trans h1, A', n', c', (hb.cell (p := ⟨b, _, none⟩) hb1).trans h2, h3.step hb⟩⟩
end Go.Bas

namespace Go.Proofs.YtiiamikkamdjoaaDoor
open Go.RowKit Go.Mix Go.Bas

def isB (n : Nat) (i k : Int) : Bool := decide (0 ≤ i ∧ 0 ≤ k ∧ i ≤ n ∧ k ≤ n - i)
def u16 (l : List UInt8) (i : Int) : Int × Bool := if 0 ≤ i ∧ i + 2 ≤ l.length then (gt l i.toNat * 256 + gt l (i.toNat + 1), true) else (0, false)
def be32 (l : List UInt8) (i : Nat) : Int := ((gt l i * 256 + gt l (i + 1)) * 256 + gt l (i + 2)) * 256 + gt l (i + 3)
def u32 (l : List UInt8) (i : Int) : Int × Bool := if 0 ≤ i ∧ i + 4 ≤ l.length then (be32 l i.toNat, true) else (0, false)

theorem ret_int {k : IntKind} {a b : Int} (h : a = b) : Ending.returned (.int k a) = .returned (.int k b) := by rw [h]

set_option maxRecDepth 8000 in
set_option maxHeartbeats 400000 in
theorem is_calls (a : Option Addr) (len cap : Nat) (i n : Int) (hl : len ≤ 9223372036854775807) (w : World) :
    Calls Tryd.prog 86 #[.slice a len cap, .int .i64 i, .int .i64 n] w fun e w' => e = .returned (.bool (isB len i n)) ∧ w = w' := by
  go_enter Tryd.func86, Tryd.ntmps86
  go_wp2
  all_goals go_ret
  all_goals refine ⟨congrArg (fun b => Ending.returned (.bool b)) ?_, rfl⟩
  all_goals rw [Bool.eq_iff_iff]; simp [isB]; omega

set_option maxRecDepth 8000 in
set_option maxHeartbeats 400000 in
theorem piece_calls (b off : Nat) (len cap : Nat) (i n : Nat) (hl : cap ≤ 9223372036854775807) (hlc : len ≤ cap) (h3 : i + n ≤ len) (h0 : 0 < n) (w : World) :
    Calls Tryd.prog 87 #[.slice (some ⟨b, off, none⟩) len cap, .int .i64 i, .int .i64 n] w fun e w' => e = .returned (.slice (some ⟨b, off+i, none⟩) n n) ∧ w = w' := by
  go_enter Tryd.func87, Tryd.ntmps87
  go_wp2
  go_ret
  refine ⟨?_, rfl⟩
  simp

set_option maxRecDepth 8000 in
set_option maxHeartbeats 400000 in
/-- nothing of it -/
theorem piece_nothing (A : Option Addr) (len cap : Nat) (i : Nat) (hl : cap ≤ 9223372036854775807) (hlc : len ≤ cap) (h3 : i ≤ len) (w : World) :
    Calls Tryd.prog 87 #[.slice A len cap, .int .i64 i, .int .i64 0] w fun e w' => (∃ A', e = .returned (.slice A' 0 0)) ∧ w = w' := by
  rcases A with _ | a
  all_goals
    go_enter Tryd.func87, Tryd.ntmps87
    go_wp2
    all_goals go_ret
    all_goals exact ⟨⟨_, rfl⟩, rfl⟩

theorem piece_bs (A : Option Addr) (k c : Nat) (l : List UInt8) (i n : Nat) (w : World) (h : Bs w A k c l) (hin : i + n ≤ l.length) :
    Calls Tryd.prog 87 #[.slice A k c, .int .i64 i, .int .i64 n] w fun e w' => (∃ A2, e = .returned (.slice A2 n n) ∧ Bs w' A2 n n ((l.drop i).take n)) ∧ w = w' := by
  have hc1 := h.cap
  have hc2 := h.most
  have hl := h.len
  rcases Nat.eq_zero_or_pos n with h0 | h0
  · subst h0
    refine (piece_nothing A k c i hc2 hc1 (by omega) w).mono ?_
    rintro e w' ⟨⟨A', rfl⟩, rfl⟩
    exact ⟨⟨A', rfl, by simpa using Bs.nil w 0 A' (by omega)⟩, rfl⟩
  · obtain ⟨b, off, rfl, hb, hc⟩ := h.at_ (by omega)
    refine (piece_calls b off k c i n hc2 hc1 (by omega) h0 w).mono ?_
    rintro e w' ⟨rfl, rfl⟩
    exact ⟨⟨_, rfl, h.cut hin (Nat.le_refl _) (by omega)⟩, rfl⟩

set_option maxRecDepth 8000 in
set_option maxHeartbeats 400000 in
theorem U16_calls (A : Option Addr) (n c : Nat) (l : List UInt8) (i : Int) (w : World) (h : Bs w A n c l) :
    Calls Tryd.prog 62 #[.slice A n c, .int .i64 i] w fun e w' => e = .returned (.tuple #[.int .i64 (u16 l i).1, .bool (u16 l i).2]) ∧ ∃ n, w' = w.drewN n := by
  obtain rfl := h.len
  have hc1 := h.cap
  have hc2 := h.most
  by_cases hi : 0 ≤ i ∧ i + 2 ≤ l.length
  · have h3 := hi.2
    obtain ⟨i, rfl⟩ := Int.eq_ofNat_of_zero_le hi.1
    obtain ⟨b, off, rfl, hb, hc⟩ := h.at_ (by omega)
    have hx := hc i (by omega)
    have hy := hc (i + 1) (by omega)
    rw [← Nat.add_assoc] at hy
    have hx0 := gt_lo l i
    have hx1 := gt_hi l i
    have hy0 := gt_lo l (i + 1)
    have hy1 := gt_hi l (i + 1)
    have hu : u16 l (i : Int) = (gt l i * 256 + gt l (i + 1), true) := by unfold u16; rw [if_pos hi]; rfl
    rw [hu]
    clear hu hc h hi
    have h4 : ¬ ((i : Int) < 0) := by omega
    have h5 : ¬ ((l.length : Int) - 1 ≤ i) := by omega
    go_enter Tryd.func62, Tryd.ntmps62
    go_wp2_with fail
    refine (is_calls _ _ _ _ _ (by omega) _).mono ?_; rintro e w' ⟨rfl, rfl⟩
    have hB : isB l.length (i : Int) 2 = true := by unfold isB; simp; omega
    go_wp2_with fail
    refine (piece_calls b off l.length c i 2 (by omega) (by omega) (by omega) (by omega) _).mono ?_; rintro e w' ⟨rfl, rfl⟩
    go_wp2_with fail
    go_quiet (fail)
    go_wp2
    go_ret2
    refine ⟨?_, _, rfl⟩
    simp [or256 _ _ hx0 (show gt l i < 36028797018963968 by omega) hy0 hy1]
  · have hu : u16 l i = (0, false) := by unfold u16; rw [if_neg hi]
    rw [hu]
    clear hu
    have hB : isB l.length i 2 = false := by unfold isB; simp; omega
    go_enter Tryd.func62, Tryd.ntmps62
    go_wp2_with fail
    refine (is_calls _ _ _ _ _ (by omega) _).mono ?_; rintro e w' ⟨rfl, rfl⟩
    go_wp2
    go_ret2
    exact ⟨rfl, 0, rfl⟩

set_option maxRecDepth 8000 in
set_option maxHeartbeats 400000 in
theorem rU16_calls (A : Option Addr) (n c : Nat) (l : List UInt8) (i : Int) (w : World) (h : Bs w A n c l) :
    Calls Tryd.prog 88 #[.slice A n c, .int .i64 i] w fun e w' => e = .returned (.tuple #[.int .i64 (u16 l i).1, .bool (u16 l i).2]) ∧ ∃ n, w' = w.drewN n := by
  obtain rfl := h.len
  have hc1 := h.cap
  have hc2 := h.most
  by_cases hi : 0 ≤ i ∧ i + 2 ≤ l.length
  · have h3 := hi.2
    obtain ⟨i, rfl⟩ := Int.eq_ofNat_of_zero_le hi.1
    obtain ⟨b, off, rfl, hb, hc⟩ := h.at_ (by omega)
    have hx := hc i (by omega)
    have hy := hc (i + 1) (by omega)
    have hx0 := gt_lo l i
    have hx1 := gt_hi l i
    have hy0 := gt_lo l (i + 1)
    have hy1 := gt_hi l (i + 1)
    have hu : u16 l (i : Int) = (gt l i * 256 + gt l (i + 1), true) := by unfold u16; rw [if_pos hi]; rfl
    rw [hu]
    clear hu hc h hi
    have h4 : ¬ ((i : Int) < 0) := by omega
    have h5 : ¬ ((l.length : Int) - 1 ≤ i) := by omega
    go_enter Tryd.func88, Tryd.ntmps88
    go_wp2_with fail
    go_quiet (fail)
    go_wp2
    go_ret2
    exact ⟨rfl, _, rfl⟩
  · have hu : u16 l i = (0, false) := by unfold u16; rw [if_neg hi]
    rw [hu]
    clear hu h
    by_cases h0 : i < 0
    · go_enter Tryd.func88, Tryd.ntmps88
      go_wp2
      go_ret2
      exact ⟨rfl, 0, rfl⟩
    · have h1 : (l.length : Int) - 1 ≤ i := by omega
      go_enter Tryd.func88, Tryd.ntmps88
      go_wp2
      go_ret2
      exact ⟨rfl, 0, rfl⟩


set_option maxRecDepth 8000 in
set_option maxHeartbeats 400000 in
theorem rU32_calls (A : Option Addr) (n c : Nat) (l : List UInt8) (i : Int) (w : World) (h : Bs w A n c l) (hi1 : i ≤ 9223372036854775807) :
    Calls Tryd.prog 64 #[.slice A n c, .int .i64 i] w fun e w' => e = .returned (.tuple #[.int .u32 (u32 l i).1, .bool (u32 l i).2]) ∧ ∃ n, w' = w.drewN n := by
  obtain rfl := h.len
  have hc1 := h.cap
  have hc2 := h.most
  by_cases hi : 0 ≤ i ∧ i + 4 ≤ l.length
  · have h3 := hi.2
    obtain ⟨i, rfl⟩ := Int.eq_ofNat_of_zero_le hi.1
    have e1 : u16 l (i : Int) = (gt l i * 256 + gt l (i + 1), true) := by unfold u16; rw [if_pos (by omega)]; rfl
    have e2 : u16 l ((i : Int) + 2) = (gt l (i + 2) * 256 + gt l (i + 3), true) := by
      unfold u16; rw [if_pos (by omega)]
      rw [show ((i : Int) + 2).toNat = i + 2 by omega]
    have hu : u32 l (i : Int) = (be32 l i, true) := by unfold u32; rw [if_pos hi]; rfl
    have g0 := gt_lo l i
    have g1 := gt_hi l i
    have g2 := gt_lo l (i + 1)
    have g3 := gt_hi l (i + 1)
    have g4 := gt_lo l (i + 2)
    have g5 := gt_hi l (i + 2)
    have g6 := gt_lo l (i + 3)
    have g7 := gt_hi l (i + 3)
    have hfin : (gt l i * 256 + gt l (i + 1)) * 65536 + (gt l (i + 2) * 256 + gt l (i + 3)) = be32 l i := by unfold be32; omega
    have Hfin := hid hfin
    have E1 := hid e1
    have E2 := hid e2
    rw [hu]
    clear hu hi hfin e1 e2
    have h4 : ¬ ((i : Int) < 0) := by omega
    have h5 : ¬ ((l.length : Int) - 3 ≤ i) := by omega
    go_enter Tryd.func64, Tryd.ntmps64
    go_wp2_with fail
    refine (rU16_calls _ _ _ l _ _ h).mono ?_; rintro e w' ⟨rfl, n1, rfl⟩
    rw [E1.out]
    go_wp2_with fail
    refine (rU16_calls _ _ _ l _ _ (h.drewN _)).mono ?_; rintro e w' ⟨rfl, n2, rfl⟩
    rw [E2.out]
    go_wp2
    go_ret2
    refine ⟨?_, _, rfl⟩
    rw [← Hfin.out]
    rfl
  · have hu : u32 l i = (0, false) := by unfold u32; rw [if_neg hi]
    rw [hu]
    clear hu h
    by_cases h0 : i < 0
    · go_enter Tryd.func64, Tryd.ntmps64
      go_wp2
      go_ret2
      exact ⟨rfl, 0, rfl⟩
    · have h1 : (l.length : Int) - 3 ≤ i := by omega
      go_enter Tryd.func64, Tryd.ntmps64
      go_wp2
      go_ret2
      exact ⟨rfl, 0, rfl⟩

def acc32 (l : List UInt8) (i : Nat) : Nat → Int
  | 0 => 0
  | k + 1 => acc32 l i k * 256 + gt l (i + k)
theorem acc32_bd (l : List UInt8) (i k : Nat) : 0 ≤ acc32 l i k ∧ acc32 l i k < (256 : Int) ^ k := by
  induction k with
  | zero => exact ⟨by unfold acc32; omega, by simp [acc32]⟩
  | succ k ih =>
    have h1 := gt_lo l (i + k)
    have h2 := gt_hi l (i + k)
    have h3 : (256 : Int) ^ (k + 1) = 256 ^ k * 256 := Int.pow_succ _ _
    unfold acc32
    rw [h3]
    generalize (256 : Int) ^ k = q at *
    omega

set_option maxRecDepth 8000 in
set_option maxHeartbeats 400000 in
theorem U32_calls (A : Option Addr) (n c : Nat) (l : List UInt8) (i : Int) (w : World) (h : Bs w A n c l) :
    Calls Tryd.prog 63 #[.slice A n c, .int .i64 i] w fun e w' => e = .returned (.tuple #[.int .u32 (u32 l i).1, .bool (u32 l i).2]) ∧ w = w' := by
  obtain rfl := h.len
  have hc1 := h.cap
  have hc2 := h.most
  by_cases hi : 0 ≤ i ∧ i + 4 ≤ l.length
  · have h3 := hi.2
    obtain ⟨i, rfl⟩ := Int.eq_ofNat_of_zero_le hi.1
    obtain ⟨b, off, rfl, hb, hc⟩ := h.at_ (by omega)
    have hu : u32 l (i : Int) = (be32 l i, true) := by unfold u32; rw [if_pos hi]; rfl
    rw [hu]
    have HC := hid hc
    clear hu hi h hc
    have hB : isB l.length (i : Int) 4 = true := by unfold isB; simp; omega
    go_enter Tryd.func63, Tryd.ntmps63
    go_wp2_with fail
    refine (is_calls _ _ _ _ _ (by omega) _).mono ?_; rintro e w' ⟨rfl, rfl⟩
    go_wp2_with fail
    refine (piece_calls b off l.length c i 4 (by omega) (by omega) (by omega) (by omega) _).mono ?_; rintro e w' ⟨rfl, rfl⟩
    go_wp2_with fail
    go_loop [6, 17] (fun n k => ∃ j : Nat, j ≤ 4 ∧ k = .int .i64 j ∧ n = .int .u32 (acc32 l i j)) (fun _ k => 4 - (intOf k).toNat)
    case atStart => exact ⟨0, by omega, rfl, rfl⟩
    case round =>
      obtain ⟨j, hj, rfl, rfl⟩ := hrel
      by_cases hlt : j < 4
      · have hx := HC.out (i + j) (by omega)
        rw [← Nat.add_assoc] at hx
        have hx0 := gt_lo l (i + j)
        have hx1 := gt_hi l (i + j)
        have hm := acc32_bd l i j
        have hm1 : acc32 l i j < 16777216 := by
          rcases (by omega : j = 0 ∨ j = 1 ∨ j = 2 ∨ j = 3) with rfl | rfl | rfl | rfl <;> simp at hm <;> omega
        have hm0 := hm.1
        clear hm
        have hlt' : (j : Int) < 4 := by omega
        go_wp2
        go_round
        case rel => exact ⟨j + 1, by omega, by go_num, by rw [or256_u32 _ _ hm0 hm1 hx0 hx1]; rfl⟩
        case measure => simp [intOf]; omega
      · have : j = 4 := by omega
        subst this
        have e4 : acc32 l i 4 = be32 l i := by simp [acc32, be32]
        rw [e4]
        clear hlt hj e4 HC h3
        go_wp2
        go_ret2
        exact ⟨rfl, rfl⟩
  · have hu : u32 l i = (0, false) := by unfold u32; rw [if_neg hi]
    rw [hu]
    clear hu h
    have hB : isB l.length i 4 = false := by unfold isB; simp; omega
    clear hi
    go_enter Tryd.func63, Tryd.ntmps63
    go_wp2_with fail
    refine (is_calls _ _ _ _ _ (by omega) _).mono ?_; rintro e w' ⟨rfl, rfl⟩
    go_wp2
    go_ret2
    exact ⟨rfl, rfl⟩

end Go.Proofs.YtiiamikkamdjoaaDoor

namespace Go.Proofs.YtiiamikkamdjoaaDoor
open Go.RowKit Go.Mix Go.Bas

def b8 (n : Int) : UInt8 := UInt8.ofNat (n % 256).toNat
theorem b8_toNat (n : Int) : ((b8 n).toNat : Int) = n % 256 := by
  unfold b8
  rw [UInt8.toNat_ofNat']
  omega
theorem bv_b8 (n : Int) : bv (b8 n) = .int .u8 (n % 256) := by unfold bv; rw [b8_toNat]
theorem b8_congr {a b : Int} (h : a % 256 = b % 256) : b8 a = b8 b := by unfold b8; rw [h]
def two (n : Int) : List UInt8 := [b8 (n / 256), b8 n]
def four (n : Int) : List UInt8 := [b8 (n / 16777216), b8 (n / 65536), b8 (n / 256), b8 n]

theorem Tryd.infob : (Tryd.prog.info? 5).map (fun i => (i.zero, i.size, i.bytes)) = some (some (.int .u8 0), 1, 1) := by kernel_rfl

set_option maxRecDepth 8000 in
set_option maxHeartbeats 400000 in
theorem two_calls (n : Int) (w : World) :
    Calls Tryd.prog 89 #[.int .i64 n] w fun e w' => e = .returned (.agg #[.int .u8 (n / 256 % 256), .int .u8 (n % 256)]) ∧ Below w.heap.size w w' := by
  go_enter Tryd.func89, Tryd.ntmps89
  go_wp2
  exact bodyPost_ret (v := .agg #[.int .u8 (n / 256 % 256), .int .u8 (n % 256)]) (by simp [results, Tryd.results89, go_sem]) rfl ⟨rfl, (Below.refl _ _).alloc (Nat.le_refl _) _⟩

theorem two_cells (n : Int) : (#[Value.int .u8 (n / 256 % 256), .int .u8 (n % 256)] : Array Value).toList = (two n).map bv := by
  simp [two, bv_b8]

set_option maxRecDepth 8000 in
set_option maxHeartbeats 400000 in
theorem Put16_calls (base : Nat) (A : Option Addr) (k c : Nat) (l : List UInt8) (n : Int) (w : World) (h : Own w base 5 A k c l) (hb : base ≤ w.heap.size) (hsz : k + 2 ≤ 140737488355328) :
    Calls Tryd.prog 66 #[.slice A k c, .int .i64 n] w fun e w' => ∃ A' n' c', e = .returned (.slice A' n' c') ∧ Own w' base 5 A' n' c' (l ++ two n) ∧ w.grownBy w' (Value.slice A k c).ownBlock := by
  obtain ⟨i0, hi, hz0, hz1, hz2⟩ := info_parts Tryd.infob
  go_enter Tryd.func66, Tryd.ntmps66
  go_wp2_with fail
  refine (two_calls _ _).mono ?_; rintro e w' ⟨rfl, hb'⟩
  have hsz' := hb'.size
  go_wp2_with (at_builtin; refine stop ?_)
  refine Stop.on (wpList_app rfl _ _ 52 rfl 5 i0 Tryd.underlying52 hi hz0 hz1 hz2 base l (two n) rfl rfl (((h.step hb').alloc _).alloc _) (Own.made_at (base := 0) _ _ (two n) _ (by simp) rfl (two_cells n) (by simp [two]) (by simp)).bs hsz (by simp; omega) ?_)
  intro A' n' c' w2 ho hg
  go_wp2
  go_ret
  exact ⟨A', n', c', rfl, ho, ((grown_of_below hb' _).trans ((World.grownBy_alloc _ _ _).trans (World.grownBy_alloc _ _ _))).trans hg⟩

set_option maxRecDepth 8000 in
set_option maxHeartbeats 400000 in
theorem Put32_calls (base : Nat) (A : Option Addr) (k c : Nat) (l : List UInt8) (n : Int) (w : World) (h : Own w base 5 A k c l) (hb : base ≤ w.heap.size) (hsz : k + 4 ≤ 140737488355328) (h0 : 0 ≤ n) (h1 : n < 4294967296) :
    Calls Tryd.prog 67 #[.slice A k c, .int .u32 n] w fun e w' => ∃ A' n' c', e = .returned (.slice A' n' c') ∧ Own w' base 5 A' n' c' (l ++ four n) ∧ w.grownBy w' (Value.slice A k c).ownBlock := by
  obtain ⟨i0, hi, hz0, hz1, hz2⟩ := info_parts Tryd.infob
  have H0 := hid h0
  have H1 := hid h1
  clear h0 h1
  go_enter Tryd.func67, Tryd.ntmps67
  go_wp2_with (at_builtin; refine stop ?_)
  refine Stop.on (wpList_app rfl _ _ 52 rfl 5 i0 Tryd.underlying52 hi hz0 hz1 hz2 base l (four n) rfl rfl (h.alloc _) (Own.made_at (base := 0) _ _ (four n) _ (by simp) rfl (by simp [four, bv_b8]) (by simp [four]) (by simp)).bs hsz (by simp; omega) ?_)
  intro A' n' c' w2 ho hg
  go_wp2
  go_ret
  exact ⟨A', n', c', rfl, ho, (World.grownBy_alloc _ _ _).trans hg⟩

set_option maxRecDepth 8000 in
set_option maxHeartbeats 400000 in
theorem Two_calls (n : Int) (w : World) :
    Calls Tryd.prog 68 #[.int .i64 n] w fun e w' => ∃ A' n' c', e = .returned (.slice A' n' c') ∧ Own w' w.heap.size 5 A' n' c' (two n) ∧ Below w.heap.size w w' := by
  have hand := and_65535 n
  have h0 : 0 ≤ n % 65536 := by omega
  have h1 : n % 65536 < 65536 := by omega
  go_enter Tryd.func68, Tryd.ntmps68
  go_wp2
  go_ret
  refine ⟨_, _, _, rfl, Own.made_at w _ (two n) _ rfl rfl ?_ (by simp [two]) (Nat.le_refl _), (Below.refl _ _).alloc (Nat.le_refl _) _⟩
  simp [two, bv_b8]
  omega

theorem four_eq (n : Int) : two (n / 65536) ++ two (n % 65536) = four n := by
  unfold two four
  rw [show b8 (n / 65536 / 256) = b8 (n / 16777216) from b8_congr (by omega), show b8 (n % 65536 / 256) = b8 (n / 256) from b8_congr (by omega), show b8 (n % 65536) = b8 n from b8_congr (by omega)]
  rfl

set_option maxRecDepth 8000 in
set_option maxHeartbeats 400000 in
theorem Four_calls (n : Int) (w : World) (h0 : 0 ≤ n) (h1 : n < 4294967296) :
    Calls Tryd.prog 69 #[.int .u32 n] w fun e w' => ∃ A' n' c', e = .returned (.slice A' n' c') ∧ Own w' w.heap.size 5 A' n' c' (four n) ∧ Below w.heap.size w w' := by
  obtain ⟨i0, hi, hz0, hz1, hz2⟩ := info_parts Tryd.infob
  go_enter Tryd.func69, Tryd.ntmps69
  go_wp2_with fail
  refine (Two_calls _ _).mono ?_; rintro e w1 ⟨A1, n1, c1, rfl, ho1, hb1⟩
  go_wp2_with fail
  refine (Two_calls _ _).mono ?_; rintro e w2 ⟨A2, n2, c2, rfl, ho2, hb2⟩
  have e1 := ho1.len
  have e2 := ho2.len
  have l1 : n1 ≤ 2 := by rw [e1]; simp [two]
  have l2 : n2 ≤ 2 := by rw [e2]; simp [two]
  clear e1 e2
  have s1 := hb1.size
  have s2 := hb2.size
  go_wp2_with (at_builtin; refine stop ?_)
  refine Stop.on (wpList_app rfl _ _ 52 rfl 5 i0 Tryd.underlying52 hi hz0 hz1 hz2 w.heap.size _ _ rfl rfl (ho1.step hb2) ho2.bs (by omega) (by omega) ?_)
  intro A' n' c' w3 ho hg
  go_wp2
  go_ret
  rw [four_eq] at ho
  exact ⟨A', n', c', rfl, ho, (below_next hb1 hb2).trans (below_grown hg (ho1.step hb2) (Nat.le_refl _) (by omega))⟩

def set16 (l : List UInt8) (i n : Int) : List UInt8 × Bool := if 0 ≤ i ∧ i + 2 ≤ l.length then (l.take i.toNat ++ (two n ++ l.drop (i.toNat + 2)), true) else ([], false)
def cutb (l : List UInt8) (i n : Int) : List UInt8 × Bool := if isB l.length i n then ((l.drop i.toNat).take n.toNat, true) else ([], false)
def zeros (l : List UInt8) : Bool := l.all (· == 0)

theorem two_len (n : Int) : (two n).length = 2 := rfl

end Go.Proofs.YtiiamikkamdjoaaDoor

namespace Go.Proofs.YtiiamikkamdjoaaDoor
open Go.RowKit Go.Mix Go.Bas

theorem zeros_false {l : List UInt8} {j : Nat} (h : gt l j ≠ 0) (hj : j < l.length) : zeros l = false := by
  unfold zeros
  rw [List.all_eq_false]
  refine ⟨l[j], List.getElem_mem hj, ?_⟩
  rw [gt_of_lt hj] at h
  simp
  intro e
  rw [e] at h
  exact h rfl
theorem zeros_true {l : List UInt8} (h : ∀ j, j < l.length → gt l j = 0) : zeros l = true := by
  unfold zeros
  rw [List.all_eq_true]
  intro x hx
  obtain ⟨j, hj, rfl⟩ := List.getElem_of_mem hx
  have := h j hj
  rw [gt_of_lt hj] at this
  simp only [beq_iff_eq]
  exact UInt8.toNat_inj.1 (by simpa using this)

end Go.Proofs.YtiiamikkamdjoaaDoor

namespace Go.Proofs.YtiiamikkamdjoaaDoor
open Go.RowKit Go.Mix Go.Bas

end Go.Proofs.YtiiamikkamdjoaaDoor

namespace Go.Mix
open Go Go.RowKit
theorem calls_name {P : Program} {f : FuncId} {args : Array Value} {w : World} {Q : Ending → World → Prop} (h : ∀ w', w' = w → Calls P f args w' Q) : Calls P f args w Q := h w rfl
end Go.Mix
namespace Go.Bas
open Go Go.RowKit Go.Mix
theorem Own.sets_far {base g : Nat} {T : TypeId} {A : Option Addr} {n c : Nat} {l : List UInt8} (hg : g < base) : ∀ (vs : List Value) (o : Nat) {w : World}, Own w base T A n c l → Own (w.setCells g o vs) base T A n c l
  | [], _, _, h => h
  | v :: r, o, w, h => by rw [World.setCells]; exact Own.sets_far hg r (o + 1) (h.far (p := ⟨g, o, none⟩) hg v)
end Go.Bas

namespace Go.Proofs.YtiiamikkamdjoaaDoor
open Go.RowKit Go.Mix Go.Bas

def can : Int → List (Int × List UInt8) → Int
  | left, [] => if left < 0 then 8 else 0
  | left, p :: r => if p.1 ≤ 0 ∨ 255 < p.1 ∨ p.1 = 4 then 2 else if 255 < p.2.length then 4 else can (if left < 0 then left else left - (2 + p.2.length)) r
def enc : List (Int × List UInt8) → List UInt8
  | [] => []
  | p :: r => b8 p.1 :: b8 p.2.length :: (p.2 ++ enc r)
def padN (m : Nat) : List UInt8 := 4 :: b8 ((m : Int) - 2) :: List.replicate (m - 2) 0
def pad (n : Int) : List UInt8 := if n < 1 then [] else if n = 1 then [0] else padN (if 257 < n then 257 else n.toNat)
def put (L : List (Int × List UInt8)) : List UInt8 × Int := if can 256 L = 0 then (enc L ++ pad ((8 - (enc L).length % 8) % 8), 0) else ([], can 256 L)
def find : List (Int × List UInt8) → Int → Option (List UInt8)
  | [], _ => none
  | p :: r, k => if p.1 = k then some p.2 else find r k

theorem pad_small {n : Int} (h : n < 1) : pad n = [] := by unfold pad; rw [if_pos h]
theorem pad_one : pad 1 = [0] := rfl
theorem pad_mid {m : Nat} (h : 2 ≤ m) (h2 : m ≤ 257) : pad m = padN m := by
  unfold pad
  rw [if_neg (by omega), if_neg (by omega), if_neg (by omega), Int.toNat_natCast]
theorem pad_big {n : Int} (h : 257 ≤ n) : pad n = padN 257 := by
  unfold pad
  rw [if_neg (by omega), if_neg (by omega)]
  split
  · rfl
  · rw [show n.toNat = 257 by omega]
theorem padN_set {m : Nat} (h : 2 ≤ m) : ((List.replicate m (0 : UInt8)).set 0 4).set 1 (b8 ((m : Int) - 2)) = padN m := by
  obtain ⟨k, rfl⟩ : ∃ k, m = k + 2 := ⟨m - 2, by omega⟩
  simp [padN, List.replicate_succ]
theorem padN_grow {m j : Nat} (h : 2 ≤ j) (hj : j < m) (x : UInt8) : (4 :: x :: List.replicate (j - 2) 0) ++ [0] = 4 :: x :: List.replicate (j + 1 - 2) 0 := by
  obtain ⟨k, rfl⟩ : ∃ k, j = k + 2 := ⟨j - 2, by omega⟩
  simp [List.replicate_succ']
theorem pad_len (n : Int) : (pad n).length ≤ 257 := by
  unfold pad
  split
  · simp
  · split
    · simp
    · simp only [padN, List.length_cons, List.length_replicate]
      split <;> omega
theorem can_drop {L : List (Int × List UInt8)} {j : Nat} (hj : j < L.length) (left : Int) : can left (L.drop j) =
    if L[j].1 ≤ 0 ∨ 255 < L[j].1 ∨ L[j].1 = 4 then 2 else if 255 < L[j].2.length then 4 else can (if left < 0 then left else left - (2 + L[j].2.length)) (L.drop (j + 1)) := by
  rw [List.drop_eq_getElem_cons hj, can]
theorem find_drop {L : List (Int × List UInt8)} {j : Nat} (hj : j < L.length) (k : Int) : find (L.drop j) k = if L[j].1 = k then some L[j].2 else find (L.drop (j + 1)) k := by
  rw [List.drop_eq_getElem_cons hj, find]
theorem enc_take {L : List (Int × List UInt8)} {j : Nat} (hj : j < L.length) : enc (L.take (j + 1)) = enc (L.take j) ++ [b8 L[j].1, b8 L[j].2.length] ++ L[j].2 := by
  have h : ∀ (a : List (Int × List UInt8)) (p : Int × List UInt8), enc (a ++ [p]) = enc a ++ [b8 p.1, b8 p.2.length] ++ p.2 := by
    intro a p
    induction a with
    | nil => simp [enc]
    | cons q r ih => simp [enc, ih]
  rw [List.take_succ_eq_append_getElem hj, h]
theorem can_neg : ∀ (L : List (Int × List UInt8)) (left : Int), left < 0 → can left L ≠ 0
  | [], left, h => by rw [can, if_pos h]; decide
  | p :: r, left, h => by
    rw [can]
    split
    · decide
    · split
      · decide
      · exact can_neg r left h
theorem can_len : ∀ (L : List (Int × List UInt8)) (left : Int), can left L = 0 → ((enc L).length : Int) ≤ left
  | [], left, h => by
    rw [can] at h
    split at h
    · cases h
    · simp [enc]; omega
  | p :: r, left, h => by
    rw [can] at h
    split at h
    · cases h
    · split at h
      · cases h
      · split at h
        · exact absurd h (can_neg r left ‹_›)
        · have := can_len r _ h
          simp only [enc, List.length_cons, List.length_append]
          omega
theorem enc_app : ∀ (a b : List (Int × List UInt8)), enc (a ++ b) = enc a ++ enc b
  | [], b => by simp [enc]
  | p :: r, b => by simp [enc, enc_app r b]
theorem enc_len {L : List (Int × List UInt8)} (h : can 256 L = 0) (j : Nat) : (enc (L.take j)).length ≤ 256 := by
  have h1 := can_len L 256 h
  have h2 := enc_app (L.take j) (L.drop j)
  rw [List.take_append_drop] at h2
  rw [h2, List.length_append] at h1
  omega
end Go.Proofs.YtiiamikkamdjoaaDoor

namespace Go.Proofs.YtiiamikkamdjoaaDoor
open Go.RowKit Go.Mix Go.Bas

end Go.Proofs.YtiiamikkamdjoaaDoor

namespace Go.Bas

def low (n : Int) : Int := n % 65536
def jn (a b : Int) : Int := if 65535 < low a + low b then low a + low b - 65535 else low a + low b
def nt (s : Int) : Int := 65535 - low s
def upd (check was is : Int) : Int := nt (jn (jn (nt check) (nt was)) is)
def wsum : Int → List UInt8 → Int
  | s, [] => s
  | s, [x] => jn s ((x.toNat : Int) * 256)
  | s, x :: y :: r => wsum (jn s ((x.toNat : Int) * 256 + (y.toNat : Int))) r

theorem low_lo (n : Int) : 0 ≤ low n := by unfold low; omega
theorem low_hi (n : Int) : low n < 65536 := by unfold low; omega
theorem jn_lo (a b : Int) : 0 ≤ jn a b := by
  have := low_lo a; have := low_lo b; unfold jn; split <;> omega
theorem jn_hi (a b : Int) : jn a b < 65536 := by
  have := low_hi a; have := low_hi b; unfold jn; split <;> omega
theorem wsum_lo : ∀ (l : List UInt8) (s : Int), 0 ≤ s → 0 ≤ wsum s l
  | [], s, h => by simpa [wsum] using h
  | [x], s, h => by simp only [wsum]; exact jn_lo _ _
  | x :: y :: r, s, h => by simp only [wsum]; exact wsum_lo r _ (jn_lo _ _)
theorem wsum_hi : ∀ (l : List UInt8) (s : Int), s < 65536 → wsum s l < 65536
  | [], s, h => by simpa [wsum] using h
  | [x], s, h => by simp only [wsum]; exact jn_hi _ _
  | x :: y :: r, s, h => by simp only [wsum]; exact wsum_hi r _ (jn_hi _ _)
theorem wsum_append : ∀ (l : List UInt8) (s : Int) (r : List UInt8), l.length % 2 = 0 → wsum s (l ++ r) = wsum (wsum s l) r
  | [], s, r, _ => rfl
  | [x], s, r, h => by simp at h
  | x :: y :: l, s, r, h => by
    simp only [List.cons_append, wsum]
    exact wsum_append l _ r (by simp at h; omega)
theorem wsum_word {l : List UInt8} {s : Int} {k : Nat} (h : 2 * k + 1 < l.length) : wsum s (l.take (2 * (k + 1))) = jn (wsum s (l.take (2 * k))) (gt l (2 * k) * 256 + gt l (2 * k + 1)) := by
  have e1 : l.take (2 * (k + 1)) = l.take (2 * k) ++ [l[2 * k], l[2 * k + 1]] := by
    rw [show 2 * (k + 1) = 2 * k + 1 + 1 by omega, List.take_succ_eq_append_getElem (by omega), List.take_succ_eq_append_getElem (by omega), List.append_assoc]
    rfl
  rw [e1, wsum_append _ _ _ (by simp; omega), gt_of_lt (by omega), gt_of_lt (by omega)]
  rfl
theorem wsum_last {l : List UInt8} {s : Int} {k : Nat} (h : 2 * k + 1 = l.length) : wsum s l = jn (wsum s (l.take (2 * k))) (gt l (2 * k) * 256) := by
  have e1 : l = l.take (2 * k) ++ [l[2 * k]] := by
    conv => lhs; rw [← List.take_length (l := l), ← h]
    rw [List.take_succ_eq_append_getElem (by omega)]
  conv => lhs; rw [e1]
  rw [wsum_append _ _ _ (by simp; omega), gt_of_lt (by omega)]
  rfl
theorem wsum_pad {l : List UInt8} {s : Int} (h : l.length % 2 = 1) : wsum s (l ++ [0]) = wsum s l := by
  obtain ⟨k, hk⟩ : ∃ k, 2 * k + 1 = l.length := ⟨l.length / 2, by omega⟩
  have e1 : l = l.take (2 * k) ++ [l[2 * k]] := by
    conv => lhs; rw [← List.take_length (l := l), ← hk]
    rw [List.take_succ_eq_append_getElem (by omega)]
  obtain ⟨r, x, e2, hr⟩ : ∃ r x, l = r ++ [x] ∧ r.length = 2 * k := ⟨_, _, e1, by simp; omega⟩
  subst e2
  rw [List.append_assoc, wsum_append r s ([x] ++ [0]) (by omega), wsum_append r s [x] (by omega)]
  simp [wsum]
/-- of some pieces -/
def psum (s : Int) (L : List (List UInt8)) : Int := L.foldl wsum s
theorem psum_take {L : List (List UInt8)} {j : Nat} (h : j < L.length) (s : Int) : psum s (L.take (j + 1)) = wsum (psum s (L.take j)) L[j] := by
  unfold psum
  rw [List.take_succ_eq_append_getElem h, List.foldl_append]
  rfl
theorem psum_lo (L : List (List UInt8)) (s : Int) (h : 0 ≤ s) : 0 ≤ psum s L := by
  unfold psum
  induction L generalizing s with
  | nil => exact h
  | cons l L ih => exact ih _ (wsum_lo l s h)
theorem psum_hi (L : List (List UInt8)) (s : Int) (h : s < 65536) : psum s L < 65536 := by
  unfold psum
  induction L generalizing s with
  | nil => exact h
  | cons l L ih => exact ih _ (wsum_hi l s h)
end Go.Bas

namespace Go.Proofs.YtiiamikkamdjoaaDoor
open Go.RowKit Go.Mix Go.Bas

theorem u16_at2 {l : List UInt8} {i : Nat} (h : 2 * i + 2 ≤ l.length) : u16 l (2 * (i : Int)) = (gt l (2 * i) * 256 + gt l (2 * i + 1), true) := by
  unfold u16; rw [if_pos (by omega), show (2 * (i : Int)).toNat = 2 * i by omega]
theorem u16_at {l : List UInt8} {i : Nat} (h : i + 2 ≤ l.length) : u16 l (i : Int) = (gt l i * 256 + gt l (i + 1), true) := by
  unfold u16; rw [if_pos (by omega)]; rfl

end Go.Proofs.YtiiamikkamdjoaaDoor

namespace Go.Proofs.YtiiamikkamdjoaaDoor
open Go.RowKit Go.Mix Go.Bas

def pseudo (src dst : List UInt8) (len next : Int) : Int := wsum 0 (src ++ dst ++ four (len % 4294967296) ++ [0, 0, 0, b8 next])
def both (src dst : List UInt8) (next : Int) (l : List UInt8) : Int := jn (pseudo src dst l.length next) (wsum 0 l)

theorem pseudo_sum (src dst : List UInt8) (len next : Int) (hs : src.length = 16) (hd : dst.length = 16) : psum 0 [src, dst, four (len % 4294967296), [0, 0, 0, b8 next]] = pseudo src dst len next := by
  unfold pseudo psum
  rw [wsum_append _ _ _ (by simp [hs, hd, four]), wsum_append _ _ _ (by simp [hs, hd]), wsum_append _ _ _ (by simp [hs])]
  rfl
theorem fold16 (l : List UInt8) (h : l.length = 16) : (#[bv l[0], bv l[1], bv l[2], bv l[3], bv l[4], bv l[5], bv l[6], bv l[7], bv l[8], bv l[9], bv l[10], bv l[11], bv l[12], bv l[13], bv l[14], bv l[15]] : Array Value) = (l.map bv).toArray := by
  match l, h with
  | [a0, a1, a2, a3, a4, a5, a6, a7, a8, a9, a10, a11, a12, a13, a14, a15], _ => rfl
theorem bss4 {w : World} {T : TypeId} {A0 A1 A2 A3 : Option Addr} {n0 c0 n1 c1 n2 c2 n3 c3 : Nat} {l0 l1 l2 l3 : List UInt8} (b0 : Bs w A0 n0 c0 l0) (b1 : Bs w A1 n1 c1 l1) (b2 : Bs w A2 n2 c2 l2) (b3 : Bs w A3 n3 c3 l3) :
    Bss (w.alloc (.cells #[.slice A0 n0 c0, .slice A1 n1 c1, .slice A2 n2 c2, .slice A3 n3 c3] T)) (some ⟨w.heap.size, 0, none⟩) 4 4 [l0, l1, l2, l3] :=
  ⟨rfl, Nat.le_refl _, by omega, fun _ => ⟨w.heap.size, 0, rfl, by simp, fun j hj => by
    rcases (by simp at hj; omega : j = 0 ∨ j = 1 ∨ j = 2 ∨ j = 3) with rfl | rfl | rfl | rfl
    · exact ⟨A0, n0, c0, by simp, b0.alloc _⟩
    · exact ⟨A1, n1, c1, by simp, b1.alloc _⟩
    · exact ⟨A2, n2, c2, by simp, b2.alloc _⟩
    · exact ⟨A3, n3, c3, by simp, b3.alloc _⟩⟩⟩
theorem box_bs (w : World) (a : List UInt8) (T : TypeId) {g n : Nat} (hg : g = w.heap.size) (hn : n = a.length) (ha : a.length ≤ 9223372036854775807) : Bs (w.alloc (.cells (a.map bv).toArray T)) (some ⟨g, 0, none⟩) n n a :=
  made_bs w T a _ hg hn rfl ha

end Go.Proofs.YtiiamikkamdjoaaDoor

namespace Go.Proofs.YtiiamikkamdjoaaDoor
open Go.RowKit Go.Mix Go.Bas

def chk (src dst : List UInt8) (next : Int) (l : List UInt8) : Int := nt (both src dst next l)

end Go.Proofs.YtiiamikkamdjoaaDoor

namespace Go.Proofs.YtiiamikkamdjoaaDoor
open Go.RowKit Go.Mix Go.Bas

def red (t : Int) : Int := if t = 0 then 0 else (t - 1) % 65535 + 1
def tot : List UInt8 → Int
  | [] => 0
  | [x] => (x.toNat : Int) * 256
  | x :: y :: r => (x.toNat : Int) * 256 + (y.toNat : Int) + tot r
theorem tot_lo : ∀ l : List UInt8, 0 ≤ tot l
  | [] => by simp [tot]
  | [x] => by simp only [tot]; omega
  | x :: y :: r => by have := tot_lo r; simp only [tot]; omega
theorem jn_red (t b : Int) (ht : 0 ≤ t) (h0 : 0 ≤ b) (h1 : b < 65536) : jn (red t) b = red (t + b) := by
  unfold jn low red
  by_cases h : t = 0
  · subst h; simp only [if_true]; by_cases hb : b = 0
    · subst hb; simp
    · rw [if_neg (by omega), if_neg (by omega)]; omega
  · rw [if_neg h]
    rw [if_neg (show ¬ t + b = 0 by omega)]
    split <;> omega
theorem red_hi (t : Int) : red t < 65536 := by unfold red; split <;> omega
theorem red_lo (t : Int) (_h : 0 ≤ t) : 0 ≤ red t := by unfold red; split <;> omega
theorem red_red (t u : Int) (ht : 0 ≤ t) (hu : 0 ≤ u) : red (t + red u) = red (t + u) := by
  unfold red
  by_cases h : u = 0
  · subst h; simp
  · rw [if_neg h, if_neg (show ¬ t + u = 0 by omega), if_neg (by omega)]; omega
theorem wsum_red : ∀ (l : List UInt8) (t : Int), 0 ≤ t → wsum (red t) l = red (t + tot l)
  | [], t, _ => by simp [wsum, tot]
  | [x], t, h => by
    have := x.toNat_lt
    simp only [wsum, tot]
    exact jn_red _ _ h (by omega) (by omega)
  | x :: y :: r, t, h => by
    have := x.toNat_lt
    have := y.toNat_lt
    simp only [wsum, tot]
    rw [jn_red _ _ h (by omega) (by omega), wsum_red r _ (by omega)]
    congr 1
    omega
theorem wsum_tot (l : List UInt8) : wsum 0 l = red (tot l) := by
  have := wsum_red l 0 (Int.le_refl _)
  simpa [red] using this
theorem tot_append : ∀ (a r : List UInt8), a.length % 2 = 0 → tot (a ++ r) = tot a + tot r
  | [], r, _ => by simp [tot]
  | [x], r, h => by simp at h
  | x :: y :: a, r, h => by
    simp only [List.cons_append, tot]
    rw [tot_append a r (by simp at h; omega)]
    omega
theorem tot_two (n : Int) (r : List UInt8) : tot (two n ++ r) = n % 65536 + tot r := by
  simp only [two, List.cons_append, List.nil_append, tot, b8_toNat]
  omega
theorem tot_split {l : List UInt8} {i : Nat} (hi : i + 2 ≤ l.length) (he : i % 2 = 0) : tot l = tot (l.take i) + (gt l i * 256 + gt l (i + 1)) + tot (l.drop (i + 2)) := by
  have e1 : l = l.take i ++ (l[i] :: l[i + 1] :: l.drop (i + 2)) := by
    conv => lhs; rw [← List.take_append_drop i l]
    congr 1
    rw [List.drop_eq_getElem_cons (by omega), List.drop_eq_getElem_cons (by omega)]
  conv => lhs; rw [e1]
  rw [tot_append _ _ (by simp; omega), gt_of_lt (by omega), gt_of_lt (by omega)]
  simp only [tot]
  omega
theorem tot_set {l : List UInt8} {i : Nat} (hi : i + 2 ≤ l.length) (he : i % 2 = 0) (n : Int) :
    tot (l.take i ++ (two n ++ l.drop (i + 2))) = tot l - (gt l i * 256 + gt l (i + 1)) + n % 65536 := by
  rw [tot_append _ _ (by simp; omega), tot_two, tot_split hi he]
  omega
theorem zeros_of_tot : ∀ (l : List UInt8), tot l = 0 → zeros l = true
  | [], _ => rfl
  | [x], h => by
    simp only [tot] at h
    have : x = 0 := UInt8.toNat_inj.1 (by simp; omega)
    subst this
    rfl
  | x :: y :: r, h => by
    have := tot_lo r
    simp only [tot] at h
    have hx : x = 0 := UInt8.toNat_inj.1 (by simp; omega)
    have hy : y = 0 := UInt8.toNat_inj.1 (by simp; omega)
    subst hx
    subst hy
    have := zeros_of_tot r (by omega)
    unfold zeros at *
    simpa using this

/-- UPDATED -/
theorem update_law (l : List UInt8) (i : Nat) (n : Int) (hi : i + 2 ≤ l.length) (he : i % 2 = 0) (hz : zeros (l.take i ++ (two n ++ l.drop (i + 2))) = false) :
    upd (nt (wsum 0 l)) (gt l i * 256 + gt l (i + 1)) n = nt (wsum 0 (l.take i ++ (two n ++ l.drop (i + 2)))) := by
  have h1 := tot_set hi he n
  have h2 : 0 < tot (l.take i ++ (two n ++ l.drop (i + 2))) := by
    have := tot_lo (l.take i ++ (two n ++ l.drop (i + 2)))
    rcases Int.lt_or_eq_of_le this with h | h
    · exact h
    · rw [zeros_of_tot _ h.symm] at hz; cases hz
  rw [wsum_tot, wsum_tot]
  generalize tot (l.take i ++ (two n ++ l.drop (i + 2))) = tx at *
  have h3 := tot_lo l
  have g0 := gt_lo l i
  have g1 := gt_hi l i
  have g2 := gt_lo l (i + 1)
  have g3 := gt_hi l (i + 1)
  have hw0 : 0 ≤ gt l i * 256 + gt l (i + 1) := by omega
  have hw1 : gt l i * 256 + gt l (i + 1) < 65536 := by omega
  have hge : gt l i * 256 + gt l (i + 1) ≤ tot l := by
    have := tot_split hi he
    have := tot_lo (l.take i)
    have := tot_lo (l.drop (i + 2))
    omega
  generalize gt l i * 256 + gt l (i + 1) = was at *
  have r0 := red_lo _ h3
  have r1 := red_hi (tot l)
  have e1 : nt (nt (red (tot l))) = red (tot l) := by unfold nt low; omega
  have e2 : nt was = 65535 - was := by unfold nt low; omega
  have e3 : jn (red (tot l + (65535 - was))) n = jn (red (tot l + (65535 - was))) (n % 65536) := by unfold jn low; simp
  unfold upd
  rw [e1, e2, jn_red _ _ h3 (by omega) (by omega), e3, jn_red _ _ (by omega) (by omega) (by omega)]
  congr 1
  unfold red
  rw [if_neg (by omega), if_neg (by omega)]
  omega

/-- FINE -/
theorem fine_law (src dst : List UInt8) (next : Int) (l : List UInt8) (i : Nat) (hi : i + 2 ≤ l.length) (he : i % 2 = 0) (hz0 : gt l i = 0) (hz1 : gt l (i + 1) = 0) :
    both src dst next (l.take i ++ (two (chk src dst next l) ++ l.drop (i + 2))) = 65535 := by
  have h1 := tot_set hi he (chk src dst next l)
  have hlen : (l.take i ++ (two (chk src dst next l) ++ l.drop (i + 2))).length = l.length := by simp [two]; omega
  unfold both
  rw [hlen]
  have hb : both src dst next l = red (tot (src ++ dst ++ four ((l.length : Int) % 4294967296) ++ [0, 0, 0, b8 next]) + tot l) := by
    unfold both pseudo
    rw [wsum_tot, wsum_tot, jn_red _ _ (tot_lo _) (red_lo _ (tot_lo _)) (red_hi _), red_red _ _ (tot_lo _) (tot_lo _)]
  unfold pseudo
  rw [wsum_tot, wsum_tot, jn_red _ _ (tot_lo _) (red_lo _ (tot_lo _)) (red_hi _), red_red _ _ (tot_lo _) (tot_lo _), h1, hz0, hz1]
  have hc : chk src dst next l = 65535 - both src dst next l := by
    unfold chk nt low
    rw [hb]
    have := red_lo (tot (src ++ dst ++ four ((l.length : Int) % 4294967296) ++ [0, 0, 0, b8 next]) + tot l) (by have := tot_lo (src ++ dst ++ four ((l.length : Int) % 4294967296) ++ [0, 0, 0, b8 next]); have := tot_lo l; omega)
    have := red_hi (tot (src ++ dst ++ four ((l.length : Int) % 4294967296) ++ [0, 0, 0, b8 next]) + tot l)
    omega
  rw [hc, hb]
  have h2 := tot_lo (src ++ dst ++ four ((l.length : Int) % 4294967296) ++ [0, 0, 0, b8 next])
  have h3 := tot_lo l
  generalize tot (src ++ dst ++ four ((l.length : Int) % 4294967296) ++ [0, 0, 0, b8 next]) = p at *
  generalize tot l = t at *
  clear h1 hb hc hlen
  unfold red
  by_cases h0 : p + t = 0
  · rw [if_pos h0]
    rw [if_neg (by omega)]
    omega
  · rw [if_neg h0]
    rw [if_neg (by omega)]
    omega
end Go.Proofs.YtiiamikkamdjoaaDoor

namespace Go.Proofs.YtiiamikkamdjoaaDoor
open Go
theorem fMay : Tryd.checked.prog.mayEnter = true := by kernel_rfl
theorem fLift : Tryd.checked.prog.liftsFinal = false := by kernel_rfl
theorem fMake : Tryd.checked.prog.make = some .cut := by kernel_rfl
theorem andB {a b : Bool} (h : a = true) (h' : b = true) : (a && b) = true := by rw [h, h']; rfl
end Go.Proofs.YtiiamikkamdjoaaDoor
