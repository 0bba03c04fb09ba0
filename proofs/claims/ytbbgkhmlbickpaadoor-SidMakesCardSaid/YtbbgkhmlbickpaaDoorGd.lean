/- Part Gd of the proof: laws used by the law of this claim. -/
import Derived.Test.YtbbgkhmlbickpaaDoorRows
import Derived.JoinedOf
import Derived.KernelRfl
import Derived.Test.YtbbgkhmlbickpaaDoorGa
set_option linter.all false
namespace Go.Bas
open Go Go.RowKit Go.Mix

/-- A slice of structs of a number and bytes. -/
structure Tls (w : World) (A : Option Addr) (n c : Nat) (L : List (Int × List UInt8)) : Prop where
  len : n = L.length
  cap : n ≤ c
  most : c ≤ 9223372036854775807
  rd : ∀ j (hj : j < L.length), ∃ b off, A = some ⟨b, off, none⟩ ∧ b < w.heap.size ∧ w.cell? ⟨b, off + j * 2, none⟩ = some (.int .i64 (L[j].1)) ∧
    ∃ A' n' c', w.cell? ⟨b, off + j * 2 + 1, none⟩ = some (.slice A' n' c') ∧ Bs w A' n' c' (L[j].2)

theorem Tls.nil (w : World) (c : Nat) (A : Option Addr) (h : c ≤ 9223372036854775807) : Tls w A 0 c [] := ⟨rfl, Nat.zero_le _, h, fun j hj => by simp at hj⟩
theorem Tls.step {w w' : World} {A : Option Addr} {n c : Nat} {L : List (Int × List UInt8)} (h : Tls w A n c L) (hb : Below w.heap.size w w') : Tls w' A n c L :=
  ⟨h.len, h.cap, h.most, fun j hj => by
    obtain ⟨b, off, rfl, hb1, h1, A', n', c', h2, h3⟩ := h.rd j hj
    exact ⟨b, off, rfl, Nat.lt_of_lt_of_le hb1 hb.size, (hb.cell (p := ⟨b, _, none⟩) hb1).trans h1, A', n', c', (hb.cell (p := ⟨b, _, none⟩) hb1).trans h2, h3.step hb⟩⟩
end Go.Bas

namespace Go.Proofs.YtbbgkhmlbickpaaDoor
open Go.RowKit Go.Mix Go.Bas

def isB (n : Nat) (i k : Int) : Bool := decide (0 ≤ i ∧ 0 ≤ k ∧ i ≤ n ∧ k ≤ n - i)
def u16 (l : List UInt8) (i : Int) : Int × Bool := if 0 ≤ i ∧ i + 2 ≤ l.length then (gt l i.toNat * 256 + gt l (i.toNat + 1), true) else (0, false)
def be32 (l : List UInt8) (i : Nat) : Int := ((gt l i * 256 + gt l (i + 1)) * 256 + gt l (i + 2)) * 256 + gt l (i + 3)
def u32 (l : List UInt8) (i : Int) : Int × Bool := if 0 ≤ i ∧ i + 4 ≤ l.length then (be32 l i.toNat, true) else (0, false)

set_option maxRecDepth 8000 in
set_option maxHeartbeats 400000 in
theorem is_calls (a : Option Addr) (len cap : Nat) (i n : Int) (hl : len ≤ 9223372036854775807) (w : World) :
    Calls Tryd.prog 126 #[.slice a len cap, .int .i64 i, .int .i64 n] w fun e w' => e = .returned (.bool (isB len i n)) ∧ w = w' := by
  go_enter Tryd.func126, Tryd.ntmps126
  go_wp2
  all_goals go_ret
  all_goals refine ⟨congrArg (fun b => Ending.returned (.bool b)) ?_, rfl⟩
  all_goals rw [Bool.eq_iff_iff]; simp [isB]; omega

set_option maxRecDepth 8000 in
set_option maxHeartbeats 400000 in
theorem piece_calls (b off : Nat) (len cap : Nat) (i n : Nat) (hl : cap ≤ 9223372036854775807) (hlc : len ≤ cap) (h3 : i + n ≤ len) (h0 : 0 < n) (w : World) :
    Calls Tryd.prog 127 #[.slice (some ⟨b, off, none⟩) len cap, .int .i64 i, .int .i64 n] w fun e w' => e = .returned (.slice (some ⟨b, off+i, none⟩) n n) ∧ w = w' := by
  go_enter Tryd.func127, Tryd.ntmps127
  go_wp2
  go_ret
  refine ⟨?_, rfl⟩
  simp

set_option maxRecDepth 8000 in
set_option maxHeartbeats 400000 in
theorem U16_calls (A : Option Addr) (n c : Nat) (l : List UInt8) (i : Int) (w : World) (h : Bs w A n c l) :
    Calls Tryd.prog 109 #[.slice A n c, .int .i64 i] w fun e w' => e = .returned (.tuple #[.int .i64 (u16 l i).1, .bool (u16 l i).2]) ∧ ∃ n, w' = w.drewN n := by
  obtain rfl := h.len
  have hc1 := h.cap
  have hc2 := h.most
  by_cases hi : 0 ≤ i ∧ i + 2 ≤ l.length
  · have h3 := hi.2
    obtain ⟨i, rfl⟩ := Int.eq_ofNat_of_zero_le hi.1
    obtain ⟨b, off, rfl, hb, hc⟩ := h.at_ (by omega)
    have hx := hc i (by omega)
    have hy := hc (i + 1) (by omega)
    rw [← Nat.add_assoc] at hy
    have hx0 := gt_lo l i
    have hx1 := gt_hi l i
    have hy0 := gt_lo l (i + 1)
    have hy1 := gt_hi l (i + 1)
    have hu : u16 l (i : Int) = (gt l i * 256 + gt l (i + 1), true) := by unfold u16; rw [if_pos hi]; rfl
    rw [hu]
    clear hu hc h hi
    have h4 : ¬ ((i : Int) < 0) := by omega
    have h5 : ¬ ((l.length : Int) - 1 ≤ i) := by omega
    go_enter Tryd.func109, Tryd.ntmps109
    go_wp2_with fail
    refine (is_calls _ _ _ _ _ (by omega) _).mono ?_; rintro e w' ⟨rfl, rfl⟩
    have hB : isB l.length (i : Int) 2 = true := by unfold isB; simp; omega
    go_wp2_with fail
    refine (piece_calls b off l.length c i 2 (by omega) (by omega) (by omega) (by omega) _).mono ?_; rintro e w' ⟨rfl, rfl⟩
    go_wp2_with fail
    go_quiet (fail)
    go_wp2
    go_ret2
    refine ⟨?_, _, rfl⟩
    simp [or256 _ _ hx0 (show gt l i < 36028797018963968 by omega) hy0 hy1]
  · have hu : u16 l i = (0, false) := by unfold u16; rw [if_neg hi]
    rw [hu]
    clear hu
    have hB : isB l.length i 2 = false := by unfold isB; simp; omega
    go_enter Tryd.func109, Tryd.ntmps109
    go_wp2_with fail
    refine (is_calls _ _ _ _ _ (by omega) _).mono ?_; rintro e w' ⟨rfl, rfl⟩
    go_wp2
    go_ret2
    exact ⟨rfl, 0, rfl⟩

def acc32 (l : List UInt8) (i : Nat) : Nat → Int
  | 0 => 0
  | k + 1 => acc32 l i k * 256 + gt l (i + k)
theorem acc32_bd (l : List UInt8) (i k : Nat) : 0 ≤ acc32 l i k ∧ acc32 l i k < (256 : Int) ^ k := by
  induction k with
  | zero => exact ⟨by unfold acc32; omega, by simp [acc32]⟩
  | succ k ih =>
    have h1 := gt_lo l (i + k)
    have h2 := gt_hi l (i + k)
    have h3 : (256 : Int) ^ (k + 1) = 256 ^ k * 256 := Int.pow_succ _ _
    unfold acc32
    rw [h3]
    generalize (256 : Int) ^ k = q at *
    omega

set_option maxRecDepth 8000 in
set_option maxHeartbeats 400000 in
theorem U32_calls (A : Option Addr) (n c : Nat) (l : List UInt8) (i : Int) (w : World) (h : Bs w A n c l) :
    Calls Tryd.prog 110 #[.slice A n c, .int .i64 i] w fun e w' => e = .returned (.tuple #[.int .u32 (u32 l i).1, .bool (u32 l i).2]) ∧ w = w' := by
  obtain rfl := h.len
  have hc1 := h.cap
  have hc2 := h.most
  by_cases hi : 0 ≤ i ∧ i + 4 ≤ l.length
  · have h3 := hi.2
    obtain ⟨i, rfl⟩ := Int.eq_ofNat_of_zero_le hi.1
    obtain ⟨b, off, rfl, hb, hc⟩ := h.at_ (by omega)
    have hu : u32 l (i : Int) = (be32 l i, true) := by unfold u32; rw [if_pos hi]; rfl
    rw [hu]
    have HC := hid hc
    clear hu hi h hc
    have hB : isB l.length (i : Int) 4 = true := by unfold isB; simp; omega
    go_enter Tryd.func110, Tryd.ntmps110
    go_wp2_with fail
    refine (is_calls _ _ _ _ _ (by omega) _).mono ?_; rintro e w' ⟨rfl, rfl⟩
    go_wp2_with fail
    refine (piece_calls b off l.length c i 4 (by omega) (by omega) (by omega) (by omega) _).mono ?_; rintro e w' ⟨rfl, rfl⟩
    go_wp2_with fail
    go_loop [6, 17] (fun n k => ∃ j : Nat, j ≤ 4 ∧ k = .int .i64 j ∧ n = .int .u32 (acc32 l i j)) (fun _ k => 4 - (intOf k).toNat)
    case atStart => exact ⟨0, by omega, rfl, rfl⟩
    case round =>
      obtain ⟨j, hj, rfl, rfl⟩ := hrel
      by_cases hlt : j < 4
      · have hx := HC.out (i + j) (by omega)
        rw [← Nat.add_assoc] at hx
        have hx0 := gt_lo l (i + j)
        have hx1 := gt_hi l (i + j)
        have hm := acc32_bd l i j
        have hm1 : acc32 l i j < 16777216 := by
          rcases (by omega : j = 0 ∨ j = 1 ∨ j = 2 ∨ j = 3) with rfl | rfl | rfl | rfl <;> simp at hm <;> omega
        have hm0 := hm.1
        clear hm
        have hlt' : (j : Int) < 4 := by omega
        go_wp2
        go_round
        case rel => exact ⟨j + 1, by omega, by go_num, by rw [or256_u32 _ _ hm0 hm1 hx0 hx1]; rfl⟩
        case measure => simp [intOf]; omega
      · have : j = 4 := by omega
        subst this
        have e4 : acc32 l i 4 = be32 l i := by simp [acc32, be32]
        rw [e4]
        clear hlt hj e4 HC h3
        go_wp2
        go_ret2
        exact ⟨rfl, rfl⟩
  · have hu : u32 l i = (0, false) := by unfold u32; rw [if_neg hi]
    rw [hu]
    clear hu h
    have hB : isB l.length i 4 = false := by unfold isB; simp; omega
    clear hi
    go_enter Tryd.func110, Tryd.ntmps110
    go_wp2_with fail
    refine (is_calls _ _ _ _ _ (by omega) _).mono ?_; rintro e w' ⟨rfl, rfl⟩
    go_wp2
    go_ret2
    exact ⟨rfl, rfl⟩

end Go.Proofs.YtbbgkhmlbickpaaDoor

namespace Go.Proofs.YtbbgkhmlbickpaaDoor
open Go.RowKit Go.Mix Go.Bas

def b8 (n : Int) : UInt8 := UInt8.ofNat (n % 256).toNat
theorem b8_toNat (n : Int) : ((b8 n).toNat : Int) = n % 256 := by
  unfold b8
  rw [UInt8.toNat_ofNat']
  omega
theorem bv_b8 (n : Int) : bv (b8 n) = .int .u8 (n % 256) := by unfold bv; rw [b8_toNat]
theorem b8_congr {a b : Int} (h : a % 256 = b % 256) : b8 a = b8 b := by unfold b8; rw [h]
def two (n : Int) : List UInt8 := [b8 (n / 256), b8 n]
def four (n : Int) : List UInt8 := [b8 (n / 16777216), b8 (n / 65536), b8 (n / 256), b8 n]

theorem Tryd.infob : (Tryd.prog.info? 5).map (fun i => (i.zero, i.size, i.bytes)) = some (some (.int .u8 0), 1, 1) := by kernel_rfl

set_option maxRecDepth 8000 in
set_option maxHeartbeats 400000 in
theorem two_calls (n : Int) (w : World) :
    Calls Tryd.prog 106 #[.int .i64 n] w fun e w' => e = .returned (.agg #[.int .u8 (n / 256 % 256), .int .u8 (n % 256)]) ∧ Below w.heap.size w w' := by
  go_enter Tryd.func106, Tryd.ntmps106
  go_wp2
  exact bodyPost_ret (v := .agg #[.int .u8 (n / 256 % 256), .int .u8 (n % 256)]) (by simp [results, Tryd.results106, go_sem]) rfl ⟨rfl, (Below.refl _ _).alloc (Nat.le_refl _) _⟩

theorem two_cells (n : Int) : (#[Value.int .u8 (n / 256 % 256), .int .u8 (n % 256)] : Array Value).toList = (two n).map bv := by
  simp [two, bv_b8]

set_option maxRecDepth 8000 in
set_option maxHeartbeats 400000 in
theorem Two_calls (n : Int) (w : World) :
    Calls Tryd.prog 74 #[.int .i64 n] w fun e w' => ∃ A' n' c', e = .returned (.slice A' n' c') ∧ Own w' w.heap.size 5 A' n' c' (two n) ∧ Below w.heap.size w w' := by
  have hand := and_65535 n
  have h0 : 0 ≤ n % 65536 := by omega
  have h1 : n % 65536 < 65536 := by omega
  go_enter Tryd.func74, Tryd.ntmps74
  go_wp2
  go_ret
  refine ⟨_, _, _, rfl, Own.made_at w _ (two n) _ rfl rfl ?_ (by simp [two]) (Nat.le_refl _), (Below.refl _ _).alloc (Nat.le_refl _) _⟩
  simp [two, bv_b8]
  omega

theorem four_eq (n : Int) : two (n / 65536) ++ two (n % 65536) = four n := by
  unfold two four
  rw [show b8 (n / 65536 / 256) = b8 (n / 16777216) from b8_congr (by omega), show b8 (n % 65536 / 256) = b8 (n / 256) from b8_congr (by omega), show b8 (n % 65536) = b8 n from b8_congr (by omega)]
  rfl

set_option maxRecDepth 8000 in
set_option maxHeartbeats 400000 in
theorem Four_calls (n : Int) (w : World) (h0 : 0 ≤ n) (h1 : n < 4294967296) :
    Calls Tryd.prog 75 #[.int .u32 n] w fun e w' => ∃ A' n' c', e = .returned (.slice A' n' c') ∧ Own w' w.heap.size 5 A' n' c' (four n) ∧ Below w.heap.size w w' := by
  obtain ⟨i0, hi, hz0, hz1, hz2⟩ := info_parts Tryd.infob
  go_enter Tryd.func75, Tryd.ntmps75
  go_wp2_with fail
  refine (Two_calls _ _).mono ?_; rintro e w1 ⟨A1, n1, c1, rfl, ho1, hb1⟩
  go_wp2_with fail
  refine (Two_calls _ _).mono ?_; rintro e w2 ⟨A2, n2, c2, rfl, ho2, hb2⟩
  have e1 := ho1.len
  have e2 := ho2.len
  have l1 : n1 ≤ 2 := by rw [e1]; simp [two]
  have l2 : n2 ≤ 2 := by rw [e2]; simp [two]
  clear e1 e2
  have s1 := hb1.size
  have s2 := hb2.size
  go_wp2_with (at_builtin; refine stop ?_)
  refine Stop.on (wpList_app rfl _ _ 48 rfl 5 i0 Tryd.underlying48 hi hz0 hz1 hz2 w.heap.size _ _ rfl rfl (ho1.step hb2) ho2.bs (by omega) (by omega) ?_)
  intro A' n' c' w3 ho hg
  go_wp2
  go_ret
  rw [four_eq] at ho
  exact ⟨A', n', c', rfl, ho, (below_next hb1 hb2).trans (below_grown hg (ho1.step hb2) (Nat.le_refl _) (by omega))⟩

end Go.Proofs.YtbbgkhmlbickpaaDoor

namespace Go.Proofs.YtbbgkhmlbickpaaDoor
open Go.RowKit Go.Mix Go.Bas

end Go.Proofs.YtbbgkhmlbickpaaDoor

namespace Go.Proofs.YtbbgkhmlbickpaaDoor
open Go.RowKit Go.Mix Go.Bas

end Go.Proofs.YtbbgkhmlbickpaaDoor

namespace Go.Proofs.YtbbgkhmlbickpaaDoor
open Go.RowKit Go.Mix Go.Bas

def can : Int → List (Int × List UInt8) → Int
  | left, [] => if left < 0 then 8 else 0
  | left, p :: r => if p.1 ≤ 0 ∨ 255 < p.1 ∨ p.1 = 4 then 2 else if 255 < p.2.length then 4 else can (if left < 0 then left else left - (2 + p.2.length)) r
def enc : List (Int × List UInt8) → List UInt8
  | [] => []
  | p :: r => b8 p.1 :: b8 p.2.length :: (p.2 ++ enc r)
def padN (m : Nat) : List UInt8 := 4 :: b8 ((m : Int) - 2) :: List.replicate (m - 2) 0
def pad (n : Int) : List UInt8 := if n < 1 then [] else if n = 1 then [0] else padN (if 257 < n then 257 else n.toNat)
def put (L : List (Int × List UInt8)) : List UInt8 × Int := if can 256 L = 0 then (enc L ++ pad ((8 - (enc L).length % 8) % 8), 0) else ([], can 256 L)
end Go.Proofs.YtbbgkhmlbickpaaDoor

namespace Go.Proofs.YtbbgkhmlbickpaaDoor
open Go.RowKit Go.Mix Go.Bas

end Go.Proofs.YtbbgkhmlbickpaaDoor

namespace Go.Bas

def low (n : Int) : Int := n % 65536
def jn (a b : Int) : Int := if 65535 < low a + low b then low a + low b - 65535 else low a + low b
def nt (s : Int) : Int := 65535 - low s
def upd (check was is : Int) : Int := nt (jn (jn (nt check) (nt was)) is)
end Go.Bas

namespace Go.Proofs.YtbbgkhmlbickpaaDoor
open Go.RowKit Go.Mix Go.Bas

end Go.Proofs.YtbbgkhmlbickpaaDoor

namespace Go.Proofs.YtbbgkhmlbickpaaDoor
open Go.RowKit Go.Mix Go.Bas

end Go.Proofs.YtbbgkhmlbickpaaDoor

namespace Go.Proofs.YtbbgkhmlbickpaaDoor
open Go.RowKit Go.Mix Go.Bas

end Go.Proofs.YtbbgkhmlbickpaaDoor

namespace Go.Proofs.YtbbgkhmlbickpaaDoor
open Go
theorem fMay : Tryd.checked.prog.mayEnter = true := by kernel_rfl
theorem fLift : Tryd.checked.prog.liftsFinal = false := by kernel_rfl
theorem fMake : Tryd.checked.prog.make = some .cut := by kernel_rfl
theorem andB {a b : Bool} (h : a = true) (h' : b = true) : (a && b) = true := by rw [h, h']; rfl
end Go.Proofs.YtbbgkhmlbickpaaDoor
