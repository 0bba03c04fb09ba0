/- Part Gd of the proof: laws used by the law of this claim. -/
import Derived.Test.YtpoeinajedbfoaaDoorRows
import Derived.JoinedOf
import Derived.KernelRfl
import Derived.Test.YtpoeinajedbfoaaDoorGa
set_option linter.all false
namespace Go.Bas
open Go Go.RowKit Go.Mix

/-- A slice of structs of a number and bytes. -/
structure Tls (w : World) (A : Option Addr) (n c : Nat) (L : List (Int × List UInt8)) : Prop where
  len : n = L.length
  cap : n ≤ c
  most : c ≤ 9223372036854775807
  rd : ∀ j (hj : j < L.length), ∃ b off, A = some ⟨b, off, none⟩ ∧ b < w.heap.size ∧ w.cell? ⟨b, off + j * 2, none⟩ = some (.int .i64 (L[j].1)) ∧
    ∃ A' n' c', w.cell? ⟨b, off + j * 2 + 1, none⟩ = some (.slice A' n' c') ∧ Bs w A' n' c' (L[j].2)

theorem Tls.nil (w : World) (c : Nat) (A : Option Addr) (h : c ≤ 9223372036854775807) : Tls w A 0 c [] := ⟨rfl, Nat.zero_le _, h, fun j hj => by simp at hj⟩
theorem Tls.step {w w' : World} {A : Option Addr} {n c : Nat} {L : List (Int × List UInt8)} (h : Tls w A n c L) (hb : Below w.heap.size w w') : Tls w' A n c L :=
  ⟨h.len, h.cap, h.most, fun j hj => by
    obtain ⟨b, off, rfl, hb1, h1, A', n', c', h2, h3⟩ := h.rd j hj
    exact ⟨b, off, rfl, Nat.lt_of_lt_of_le hb1 hb.size, (hb.cell (p := ⟨b, _, none⟩) hb1).trans h1, A', n', c', (hb.cell (p := ⟨b, _, none⟩) hb1).trans h2, h3.step hb⟩⟩
end Go.Bas

namespace Go.Proofs.YtpoeinajedbfoaaDoor
open Go.RowKit Go.Mix Go.Bas

def be32 (l : List UInt8) (i : Nat) : Int := ((gt l i * 256 + gt l (i + 1)) * 256 + gt l (i + 2)) * 256 + gt l (i + 3)
def u32 (l : List UInt8) (i : Int) : Int × Bool := if 0 ≤ i ∧ i + 4 ≤ l.length then (be32 l i.toNat, true) else (0, false)

end Go.Proofs.YtpoeinajedbfoaaDoor

namespace Go.Proofs.YtpoeinajedbfoaaDoor
open Go.RowKit Go.Mix Go.Bas

def b8 (n : Int) : UInt8 := UInt8.ofNat (n % 256).toNat
theorem b8_toNat (n : Int) : ((b8 n).toNat : Int) = n % 256 := by
  unfold b8
  rw [UInt8.toNat_ofNat']
  omega
theorem bv_b8 (n : Int) : bv (b8 n) = .int .u8 (n % 256) := by unfold bv; rw [b8_toNat]
def two (n : Int) : List UInt8 := [b8 (n / 256), b8 n]
def four (n : Int) : List UInt8 := [b8 (n / 16777216), b8 (n / 65536), b8 (n / 256), b8 n]

theorem Tryd.infob : (Tryd.prog.info? 5).map (fun i => (i.zero, i.size, i.bytes)) = some (some (.int .u8 0), 1, 1) := by kernel_rfl

set_option maxRecDepth 8000 in
set_option maxHeartbeats 400000 in
theorem two_calls (n : Int) (w : World) :
    Calls Tryd.prog 77 #[.int .i64 n] w fun e w' => e = .returned (.agg #[.int .u8 (n / 256 % 256), .int .u8 (n % 256)]) ∧ Below w.heap.size w w' := by
  go_enter Tryd.func77, Tryd.ntmps77
  go_wp2
  exact bodyPost_ret (v := .agg #[.int .u8 (n / 256 % 256), .int .u8 (n % 256)]) (by simp [results, Tryd.results77, go_sem]) rfl ⟨rfl, (Below.refl _ _).alloc (Nat.le_refl _) _⟩

theorem two_cells (n : Int) : (#[Value.int .u8 (n / 256 % 256), .int .u8 (n % 256)] : Array Value).toList = (two n).map bv := by
  simp [two, bv_b8]

set_option maxRecDepth 8000 in
set_option maxHeartbeats 400000 in
theorem Put16_calls (base : Nat) (A : Option Addr) (k c : Nat) (l : List UInt8) (n : Int) (w : World) (h : Own w base 5 A k c l) (hb : base ≤ w.heap.size) (hsz : k + 2 ≤ 140737488355328) :
    Calls Tryd.prog 65 #[.slice A k c, .int .i64 n] w fun e w' => ∃ A' n' c', e = .returned (.slice A' n' c') ∧ Own w' base 5 A' n' c' (l ++ two n) ∧ w.grownBy w' (Value.slice A k c).ownBlock := by
  obtain ⟨i0, hi, hz0, hz1, hz2⟩ := info_parts Tryd.infob
  go_enter Tryd.func65, Tryd.ntmps65
  go_wp2_with fail
  refine (two_calls _ _).mono ?_; rintro e w' ⟨rfl, hb'⟩
  have hsz' := hb'.size
  go_wp2_with (at_builtin; refine stop ?_)
  refine Stop.on (wpList_app rfl _ _ 61 rfl 5 i0 Tryd.underlying61 hi hz0 hz1 hz2 base l (two n) rfl rfl (((h.step hb').alloc _).alloc _) (Own.made_at (base := 0) _ _ (two n) _ (by simp) rfl (two_cells n) (by simp [two]) (by simp)).bs hsz (by simp; omega) ?_)
  intro A' n' c' w2 ho hg
  go_wp2
  go_ret
  exact ⟨A', n', c', rfl, ho, ((grown_of_below hb' _).trans ((World.grownBy_alloc _ _ _).trans (World.grownBy_alloc _ _ _))).trans hg⟩

end Go.Proofs.YtpoeinajedbfoaaDoor

namespace Go.Proofs.YtpoeinajedbfoaaDoor
open Go.RowKit Go.Mix Go.Bas

end Go.Proofs.YtpoeinajedbfoaaDoor

namespace Go.Proofs.YtpoeinajedbfoaaDoor
open Go.RowKit Go.Mix Go.Bas

end Go.Proofs.YtpoeinajedbfoaaDoor

namespace Go.Proofs.YtpoeinajedbfoaaDoor
open Go.RowKit Go.Mix Go.Bas

def can : Int → List (Int × List UInt8) → Int
  | left, [] => if left < 0 then 8 else 0
  | left, p :: r => if p.1 ≤ 0 ∨ 255 < p.1 ∨ p.1 = 4 then 2 else if 255 < p.2.length then 4 else can (if left < 0 then left else left - (2 + p.2.length)) r
def enc : List (Int × List UInt8) → List UInt8
  | [] => []
  | p :: r => b8 p.1 :: b8 p.2.length :: (p.2 ++ enc r)
def padN (m : Nat) : List UInt8 := 4 :: b8 ((m : Int) - 2) :: List.replicate (m - 2) 0
def pad (n : Int) : List UInt8 := if n < 1 then [] else if n = 1 then [0] else padN (if 257 < n then 257 else n.toNat)
def put (L : List (Int × List UInt8)) : List UInt8 × Int := if can 256 L = 0 then (enc L ++ pad ((8 - (enc L).length % 8) % 8), 0) else ([], can 256 L)
def find : List (Int × List UInt8) → Int → Option (List UInt8)
  | [], _ => none
  | p :: r, k => if p.1 = k then some p.2 else find r k

end Go.Proofs.YtpoeinajedbfoaaDoor

namespace Go.Proofs.YtpoeinajedbfoaaDoor
open Go.RowKit Go.Mix Go.Bas

end Go.Proofs.YtpoeinajedbfoaaDoor

namespace Go.Bas

def low (n : Int) : Int := n % 65536
def jn (a b : Int) : Int := if 65535 < low a + low b then low a + low b - 65535 else low a + low b
def nt (s : Int) : Int := 65535 - low s
def upd (check was is : Int) : Int := nt (jn (jn (nt check) (nt was)) is)
def wsum : Int → List UInt8 → Int
  | s, [] => s
  | s, [x] => jn s ((x.toNat : Int) * 256)
  | s, x :: y :: r => wsum (jn s ((x.toNat : Int) * 256 + (y.toNat : Int))) r

end Go.Bas

namespace Go.Proofs.YtpoeinajedbfoaaDoor
open Go.RowKit Go.Mix Go.Bas

end Go.Proofs.YtpoeinajedbfoaaDoor

namespace Go.Proofs.YtpoeinajedbfoaaDoor
open Go.RowKit Go.Mix Go.Bas

def pseudo (src dst : List UInt8) (len next : Int) : Int := wsum 0 (src ++ dst ++ four (len % 4294967296) ++ [0, 0, 0, b8 next])
def both (src dst : List UInt8) (next : Int) (l : List UInt8) : Int := jn (pseudo src dst l.length next) (wsum 0 l)

end Go.Proofs.YtpoeinajedbfoaaDoor

namespace Go.Proofs.YtpoeinajedbfoaaDoor
open Go.RowKit Go.Mix Go.Bas

end Go.Proofs.YtpoeinajedbfoaaDoor

namespace Go.Proofs.YtpoeinajedbfoaaDoor
open Go
theorem fMay : Tryd.checked.prog.mayEnter = true := by kernel_rfl
theorem fLift : Tryd.checked.prog.liftsFinal = false := by kernel_rfl
theorem fMake : Tryd.checked.prog.make = some .cut := by kernel_rfl
theorem andB {a b : Bool} (h : a = true) (h' : b = true) : (a && b) = true := by rw [h, h']; rfl
end Go.Proofs.YtpoeinajedbfoaaDoor
