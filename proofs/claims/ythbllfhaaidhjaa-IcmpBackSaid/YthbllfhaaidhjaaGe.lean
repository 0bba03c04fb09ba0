/- Part Ge of the proof: laws used by the law of this claim. -/
import Derived.Shelf.Abstract
import Derived.Test.YthbllfhaaidhjaaProg
import Derived.Test.YthbllfhaaidhjaaGf
import Derived.Test.YthbllfhaaidhjaaGd
import Derived.Test.YthbllfhaaidhjaaGc
set_option linter.all false
namespace Go.Proofs.Ythbllfhaaidhjaa
open Go Go.Am Go.RowKit Go.Mix Go.Bas


def cU16 : List V → Option (V × Bool)
  | [.bytes l, .int .i64 i] => some (.tup [.int .i64 (u16 l i).1, .bool (u16 l i).2], true)
  | _ => none
def cU32 : List V → Option (V × Bool)
  | [.bytes l, .int .i64 i] => some (.tup [.int .u32 (u32 l i).1, .bool (u32 l i).2], decide (i ≤ 9223372036854775807))
  | _ => none
def cTwo : List V → Option (V × Bool)
  | [.int .i64 n] => some (.ownv 5 (.bytes (two n)), true)
  | _ => none
def cFour : List V → Option (V × Bool)
  | [.int .u32 n] => some (.ownv 5 (.bytes (four n)), decide (0 ≤ n) && decide (n < 4294967296))
  | _ => none
def cSet16 : List V → Option (V × Bool)
  | [.bytes l, .int .i64 i, .int .i64 n] => some (.tup [.ownv 5 (.bytes (set16 l i n).1), .bool (set16 l i n).2], decide (l.length ≤ 140737488355328))
  | _ => none
def cCut : List V → Option (V × Bool)
  | [.bytes l, .int .i64 i, .int .i64 n] => some (.tup [.ownv 5 (.bytes (cutb l i n).1), .bool (cutb l i n).2], decide (l.length ≤ 140737488355328))
  | _ => none
def cZeros : List V → Option (V × Bool)
  | [.bytes l] => some (.bool (zeros l), true)
  | _ => none
def cClone : List V → Option (V × Bool)
  | [.bytes l] => some (.ownv 5 (.bytes l), decide (l.length ≤ 140737488355328))
  | _ => none
def cIs : List V → Option (V × Bool)
  | [.bytes l, .int .i64 i, .int .i64 n] => some (.bool (isB l.length i n), true)
  | _ => none
def cJn : List V → Option (V × Bool)
  | [.int .i64 a, .int .i64 b] => some (.int .i64 (jn a b), true)
  | _ => none
def cNt : List V → Option (V × Bool)
  | [.int .i64 a] => some (.int .i64 (nt a), true)
  | _ => none
def cSum : List V → Option (V × Bool)
  | [.bytes l] => some (.int .i64 (wsum 0 l), decide (l.length ≤ 140737488355327))
  | _ => none
def cChk : List V → Option (V × Bool)
  | [.barr 16 s, .barr 16 d, .int .i64 n, .bytes l] => some (.int .i64 (chk s d n l), decide (l.length ≤ 140737488355327))
  | _ => none
def cFine : List V → Option (V × Bool)
  | [.barr 16 s, .barr 16 d, .int .i64 n, .bytes l] => some (.bool (both s d n l == 65535), decide (l.length ≤ 140737488355327))
  | _ => none

theorem s_bi {f : FuncId} {l : List UInt8} {i : Int} {v : V} (h : ∀ (O : Nat → Prop) (w : World) A n k, Bs w A n k l → Calls Try.prog f #[.slice A n k, .int .i64 i] w fun e w' => Below w.heap.size w w' ∧ ∃ c, e = .returned c ∧ OutRep O w w' v c) : SpecV Try.prog f [.bytes l, .int .i64 i] v := by
  intro O w cs hO hv
  obtain ⟨a, b, rfl, ha, hb⟩ := hv.two_inv
  obtain ⟨A, n, k, rfl, hA⟩ := ha.bs
  obtain ⟨rfl, _⟩ := hb.int_inv
  exact h O w A n k hA
theorem s_bii {f : FuncId} {l : List UInt8} {i m : Int} {v : V} (h : ∀ (O : Nat → Prop) (w : World) A n k, Bs w A n k l → Calls Try.prog f #[.slice A n k, .int .i64 i, .int .i64 m] w fun e w' => Below w.heap.size w w' ∧ ∃ c, e = .returned c ∧ OutRep O w w' v c) : SpecV Try.prog f [.bytes l, .int .i64 i, .int .i64 m] v := by
  intro O w cs hO hv
  obtain ⟨a, b, c, rfl, ha, hb, hc⟩ := hv.three_inv
  obtain ⟨A, n, k, rfl, hA⟩ := ha.bs
  obtain ⟨rfl, _⟩ := hb.int_inv
  obtain ⟨rfl, _⟩ := hc.int_inv
  exact h O w A n k hA
theorem s_iii {f : FuncId} {k1 k2 k3 : IntKind} {a b c : Int} {v : V} (h : ∀ (O : Nat → Prop) (w : World), Calls Try.prog f #[.int k1 a, .int k2 b, .int k3 c] w fun e w' => Below w.heap.size w w' ∧ ∃ c, e = .returned c ∧ OutRep O w w' v c) : SpecV Try.prog f [.int k1 a, .int k2 b, .int k3 c] v := by
  intro O w cs hO hv
  obtain ⟨a, b, c, rfl, ha, hb, hc⟩ := hv.three_inv
  obtain ⟨rfl, _⟩ := ha.int_inv
  obtain ⟨rfl, _⟩ := hb.int_inv
  obtain ⟨rfl, _⟩ := hc.int_inv
  exact h O w
theorem s_ii {f : FuncId} {k1 k2 : IntKind} {a b : Int} {v : V} (h : ∀ (O : Nat → Prop) (w : World), Calls Try.prog f #[.int k1 a, .int k2 b] w fun e w' => Below w.heap.size w w' ∧ ∃ c, e = .returned c ∧ OutRep O w w' v c) : SpecV Try.prog f [.int k1 a, .int k2 b] v := by
  intro O w cs hO hv
  obtain ⟨a, b, rfl, ha, hb⟩ := hv.two_inv
  obtain ⟨rfl, _⟩ := ha.int_inv
  obtain ⟨rfl, _⟩ := hb.int_inv
  exact h O w
theorem s_i {f : FuncId} {k1 : IntKind} {a : Int} {v : V} (h : ∀ (O : Nat → Prop) (w : World), Calls Try.prog f #[.int k1 a] w fun e w' => Below w.heap.size w w' ∧ ∃ c, e = .returned c ∧ OutRep O w w' v c) : SpecV Try.prog f [.int k1 a] v := by
  intro O w cs hO hv
  obtain ⟨a, rfl, ha⟩ := hv.one_inv
  obtain ⟨rfl, _⟩ := ha.int_inv
  exact h O w
theorem s_b {f : FuncId} {l : List UInt8} {v : V} (h : ∀ (O : Nat → Prop) (w : World) A n k, Bs w A n k l → Calls Try.prog f #[.slice A n k] w fun e w' => Below w.heap.size w w' ∧ ∃ c, e = .returned c ∧ OutRep O w w' v c) : SpecV Try.prog f [.bytes l] v := by
  intro O w cs hO hv
  obtain ⟨a, rfl, ha⟩ := hv.one_inv
  obtain ⟨A, n, k, rfl, hA⟩ := ha.bs
  exact h O w A n k hA
theorem s_aaib {f : FuncId} {s d l : List UInt8} {i : Int} {v : V} (h : ∀ (O : Nat → Prop) (w : World) A n k, s.length = 16 → d.length = 16 → Bs w A n k l → Calls Try.prog f #[av s, av d, .int .i64 i, .slice A n k] w fun e w' => Below w.heap.size w w' ∧ ∃ c, e = .returned c ∧ OutRep O w w' v c) : SpecV Try.prog f [.barr 16 s, .barr 16 d, .int .i64 i, .bytes l] v := by
  intro O w cs hO hv
  obtain ⟨a, _, rfl, ha, hv⟩ := hv.cons_inv
  obtain ⟨b, c, x, rfl, hb, hc, hx⟩ := hv.three_inv
  obtain ⟨rfl, h1⟩ := ha.barr_inv
  obtain ⟨rfl, h2⟩ := hb.barr_inv
  obtain ⟨rfl, _⟩ := hc.int_inv
  obtain ⟨A, n, k, rfl, hA⟩ := hx.bs
  exact h O w A n k h1 h2 hA

theorem U16_con : ∀ vs v, cU16 vs = some (v, true) → SpecV Try.prog 92 vs v := by
  intro vs v h; unfold cU16 at h; split at h
  · injection h with h; injection h with h hb; subst h
    exact s_bi fun O w A n k hA => kDrew (U16_calls _ _ _ _ _ _ hA) (fun _ => by first | exact OutRep.int (by intro h; cases h) | exact OutRep.bool | exact OutRep.intOk (by intro h; cases h))
  · cases h
theorem rU16_con : ∀ vs v, cU16 vs = some (v, true) → SpecV Try.prog 126 vs v := by
  intro vs v h; unfold cU16 at h; split at h
  · injection h with h; injection h with h hb; subst h
    exact s_bi fun O w A n k hA => kDrew (rU16_calls _ _ _ _ _ _ hA) (fun _ => by first | exact OutRep.int (by intro h; cases h) | exact OutRep.bool | exact OutRep.intOk (by intro h; cases h))
  · cases h
theorem U32_con : ∀ vs v, cU32 vs = some (v, true) → SpecV Try.prog 88 vs v := by
  intro vs v h; unfold cU32 at h; split at h
  · injection h with h; injection h with h hb; subst h
    exact s_bi fun O w A n k hA => kSame (U32_calls _ _ _ _ _ _ hA) (fun _ => by first | exact OutRep.int (by intro h; cases h) | exact OutRep.bool | exact OutRep.intOk (by intro h; cases h))
  · cases h
theorem rU32_con : ∀ vs v, cU32 vs = some (v, true) → SpecV Try.prog 89 vs v := by
  intro vs v h; unfold cU32 at h; split at h
  · injection h with h; injection h with h hb; subst h
    have hb := of_decide_eq_true hb
    exact s_bi fun O w A n k hA => kDrew (rU32_calls _ _ _ _ _ _ hA hb) (fun _ => by first | exact OutRep.int (by intro h; cases h) | exact OutRep.bool | exact OutRep.intOk (by intro h; cases h))
  · cases h
theorem Two_con : ∀ vs v, cTwo vs = some (v, true) → SpecV Try.prog 75 vs v := by
  intro vs v h; unfold cTwo at h; split at h
  · injection h with h; injection h with h hb; subst h
    exact s_i fun O w => kOwn (Two_calls _ _)
  · cases h
theorem Four_con : ∀ vs v, cFour vs = some (v, true) → SpecV Try.prog 74 vs v := by
  intro vs v h; unfold cFour at h; split at h
  · injection h with h; injection h with h hb; subst h
    have hb := (Bool.and_eq_true _ _).mp hb
    have hb := And.intro (of_decide_eq_true hb.1) (of_decide_eq_true hb.2)
    exact s_i fun O w => kOwn (Four_calls _ _ hb.1 hb.2)
  · cases h
theorem Set16_con : ∀ vs v, cSet16 vs = some (v, true) → SpecV Try.prog 72 vs v := by
  intro vs v h; unfold cSet16 at h; split at h
  · injection h with h; injection h with h hb; subst h
    have hb := of_decide_eq_true hb
    exact s_bii fun O w A n k hA => kOwnOk (Set16_calls _ _ _ _ _ _ _ hA (by have := hA.len; omega))
  · cases h
theorem Zeros_con : ∀ vs v, cZeros vs = some (v, true) → SpecV Try.prog 123 vs v := by
  intro vs v h; unfold cZeros at h; split at h
  · injection h with h; injection h with h hb; subst h
    exact s_b fun O w A n k hA => kSame (Zeros_calls _ _ _ _ _ hA) (fun _ => by first | exact OutRep.int (by intro h; cases h) | exact OutRep.bool | exact OutRep.intOk (by intro h; cases h))
  · cases h
theorem Clone_con : ∀ vs v, cClone vs = some (v, true) → SpecV Try.prog 77 vs v := by
  intro vs v h; unfold cClone at h; split at h
  · injection h with h; injection h with h hb; subst h
    have hb := of_decide_eq_true hb
    exact s_b fun O w A n k hA => kOwn (Clone_calls _ _ _ _ _ hA (by have := hA.len; omega))
  · cases h
theorem Is_con : ∀ vs v, cIs vs = some (v, true) → SpecV Try.prog 115 vs v := by
  intro vs v h; unfold cIs at h; split at h
  · injection h with h; injection h with h hb; subst h
    exact s_bii fun O w A n k hA => by rw [← hA.len]; exact kSame (is_calls _ _ _ _ _ (by have := hA.cap; have := hA.most; omega) _) (fun _ => by first | exact OutRep.int (by intro h; cases h) | exact OutRep.bool | exact OutRep.intOk (by intro h; cases h))
  · cases h
theorem Jn_con : ∀ vs v, cJn vs = some (v, true) → SpecV Try.prog 140 vs v := by
  intro vs v h; unfold cJn at h; split at h
  · injection h with h; injection h with h hb; subst h
    exact s_ii fun O w => kSame (jn_calls _ _ _) (fun _ => by first | exact OutRep.int (by intro h; cases h) | exact OutRep.bool | exact OutRep.intOk (by intro h; cases h))
  · cases h
theorem rJn_con : ∀ vs v, cJn vs = some (v, true) → SpecV Try.prog 112 vs v := by
  intro vs v h; unfold cJn at h; split at h
  · injection h with h; injection h with h hb; subst h
    exact s_ii fun O w => kSame (rjn_calls _ _ _) (fun _ => by first | exact OutRep.int (by intro h; cases h) | exact OutRep.bool | exact OutRep.intOk (by intro h; cases h))
  · cases h
theorem Nt_con : ∀ vs v, cNt vs = some (v, true) → SpecV Try.prog 117 vs v := by
  intro vs v h; unfold cNt at h; split at h
  · injection h with h; injection h with h hb; subst h
    exact s_i fun O w => kSame (nt_calls _ _) (fun _ => by first | exact OutRep.int (by intro h; cases h) | exact OutRep.bool | exact OutRep.intOk (by intro h; cases h))
  · cases h
theorem rNt_con : ∀ vs v, cNt vs = some (v, true) → SpecV Try.prog 119 vs v := by
  intro vs v h; unfold cNt at h; split at h
  · injection h with h; injection h with h hb; subst h
    exact s_i fun O w => kSame (rnt_calls _ _) (fun _ => by first | exact OutRep.int (by intro h; cases h) | exact OutRep.bool | exact OutRep.intOk (by intro h; cases h))
  · cases h
theorem Sum_con : ∀ vs v, cSum vs = some (v, true) → SpecV Try.prog 142 vs v := by
  intro vs v h; unfold cSum at h; split at h
  · injection h with h; injection h with h hb; subst h
    have hb := of_decide_eq_true hb
    exact s_b fun O w A n k hA => kBelow (Sum_calls _ _ _ _ _ hA (by have := hA.len; omega)) (fun _ => by first | exact OutRep.int (by intro h; cases h) | exact OutRep.bool | exact OutRep.intOk (by intro h; cases h))
  · cases h
theorem rSum_con : ∀ vs v, cSum vs = some (v, true) → SpecV Try.prog 114 vs v := by
  intro vs v h; unfold cSum at h; split at h
  · injection h with h; injection h with h hb; subst h
    have hb := of_decide_eq_true hb
    exact s_b fun O w A n k hA => kBelow (rSum_calls _ _ _ _ _ hA (by have := hA.len; omega)) (fun _ => by first | exact OutRep.int (by intro h; cases h) | exact OutRep.bool | exact OutRep.intOk (by intro h; cases h))
  · cases h
theorem Chk_con : ∀ vs v, cChk vs = some (v, true) → SpecV Try.prog 73 vs v := by
  intro vs v h; unfold cChk at h; split at h
  · injection h with h; injection h with h hb; subst h
    have hb := of_decide_eq_true hb
    exact s_aaib fun O w A n k h1 h2 hA => kBelow (Check_calls _ _ _ _ _ _ _ _ h1 h2 hA (by have := hA.len; omega)) (fun _ => by first | exact OutRep.int (by intro h; cases h) | exact OutRep.bool | exact OutRep.intOk (by intro h; cases h))
  · cases h
theorem rChk_con : ∀ vs v, cChk vs = some (v, true) → SpecV Try.prog 76 vs v := by
  intro vs v h; unfold cChk at h; split at h
  · injection h with h; injection h with h hb; subst h
    have hb := of_decide_eq_true hb
    exact s_aaib fun O w A n k h1 h2 hA => kBelow (rCheck_calls _ _ _ _ _ _ _ _ h1 h2 hA (by have := hA.len; omega)) (fun _ => by first | exact OutRep.int (by intro h; cases h) | exact OutRep.bool | exact OutRep.intOk (by intro h; cases h))
  · cases h
theorem Fine_con : ∀ vs v, cFine vs = some (v, true) → SpecV Try.prog 87 vs v := by
  intro vs v h; unfold cFine at h; split at h
  · injection h with h; injection h with h hb; subst h
    have hb := of_decide_eq_true hb
    exact s_aaib fun O w A n k h1 h2 hA => kBelow (Fine_calls _ _ _ _ _ _ _ _ h1 h2 hA (by have := hA.len; omega)) (fun _ => by first | exact OutRep.int (by intro h; cases h) | exact OutRep.bool | exact OutRep.intOk (by intro h; cases h))
  · cases h
theorem rFine_con : ∀ vs v, cFine vs = some (v, true) → SpecV Try.prog 68 vs v := by
  intro vs v h; unfold cFine at h; split at h
  · injection h with h; injection h with h hb; subst h
    have hb := of_decide_eq_true hb
    exact s_aaib fun O w A n k h1 h2 hA => kBelow (rFine_calls _ _ _ _ _ _ _ _ h1 h2 hA (by have := hA.len; omega)) (fun _ => by first | exact OutRep.int (by intro h; cases h) | exact OutRep.bool | exact OutRep.intOk (by intro h; cases h))
  · cases h
end Go.Proofs.Ythbllfhaaidhjaa

namespace Go.Proofs.Ythbllfhaaidhjaa
open Go.RowKit Go.Mix Go.Bas

def octB (n : Int) : Bool := decide (0 ≤ n ∧ n ≤ 255)
def msg0 (kd cd wd : Int) (body : List UInt8) : List UInt8 := [b8 kd, b8 cd, 0, 0] ++ four wd ++ body
def putM (src dst : List UInt8) (kd cd wd : Int) (body : List UInt8) : List UInt8 :=
  if octB kd = true ∧ octB cd = true then (msg0 kd cd wd body).take 2 ++ (two (chk src dst 58 (msg0 kd cd wd body)) ++ (msg0 kd cd wd body).drop 4) else []
theorem octB_iff {n : Int} : octB n = true ↔ 0 ≤ n ∧ n ≤ 255 := by unfold octB; exact decide_eq_true_iff
theorem octB_not {n : Int} : octB n = false ↔ ¬ (0 ≤ n ∧ n ≤ 255) := by unfold octB; exact decide_eq_false_iff_not

theorem octet_calls (n : Int) (w : World) : Calls Try.prog 70 #[.int .i64 n] w fun e w' => e = .returned (.bool (octB n)) ∧ w = w' := by
  by_cases h0 : 0 ≤ n
  · by_cases h1 : n ≤ 255
    · have HB := hid (octB_iff.2 ⟨h0, h1⟩)
      go_enter Try.func70, Try.ntmps70
      go_wp2
      go_ret
      exact ⟨by rw [HB.out]; rfl, rfl⟩
    · have HB := hid (octB_not.2 (fun h => h1 h.2))
      go_enter Try.func70, Try.ntmps70
      go_wp2
      go_ret
      exact ⟨by rw [HB.out]; rfl, rfl⟩
  · have HB := hid (octB_not.2 (fun h => h0 h.1))
    go_enter Try.func70, Try.ntmps70
    go_wp2
    go_ret
    exact ⟨by rw [HB.out]; rfl, rfl⟩

set_option maxRecDepth 8000 in
set_option maxHeartbeats 1000000 in
theorem IPut_calls (src dst : List UInt8) (kd cd wd : Int) (A : Option Addr) (n c : Nat) (body : List UInt8) (w : World) (hs : src.length = 16) (hd : dst.length = 16) (h : Bs w A n c body) (hsz : n ≤ 140737488351232) (hw0 : 0 ≤ wd) (hw1 : wd < 4294967296) :
    Calls Try.prog 21 #[av src, av dst, .agg #[.int .i64 kd, .int .i64 cd, .int .u32 wd, .slice A n c]] w fun e w' => ∃ A' n' c', e = .returned (.slice A' n' c') ∧ Own w' w.heap.size 5 A' n' c' (putM src dst kd cd wd body) ∧ Below w.heap.size w w' := by
  obtain ⟨i0, hi, hz0, hz1, hz2⟩ := info_parts Try.infob
  unfold av
  have HH := hid h
  have HS := hid hs
  have HD := hid hd
  have HW1 := hid hw1
  clear h hs hd hw1
  by_cases k0 : octB kd = true
  · by_cases k1 : octB cd = true
    · have hput : putM src dst kd cd wd body = (msg0 kd cd wd body).take 2 ++ (two (chk src dst 58 (msg0 kd cd wd body)) ++ (msg0 kd cd wd body).drop 4) := if_pos ⟨k0, k1⟩
      have HP := hid hput
      have r0 := octB_iff.1 k0
      have r1 := octB_iff.1 k1
      obtain ⟨r00, r01⟩ := r0
      obtain ⟨r10, r11⟩ := r1
      have K0 := hid k0
      have K1 := hid k1
      clear hput k0 k1
      go_enter Try.func21, Try.ntmps21
      go_wp2_with fail
      refine (octet_calls _ _).mono ?_; rintro e w' ⟨rfl, rfl⟩
      rw [K0.out]
      go_wp2_with fail
      refine (octet_calls _ _).mono ?_; rintro e w' ⟨rfl, rfl⟩
      rw [K1.out]
      go_wp2_with fail
      refine calls_name ?_; intro w4 hw4
      have hS : Blk w4 w.heap.size 23 (src.map bv) := by rw [hw4]; exact (((Blk.new _ _ _).alloc _).alloc _).alloc _
      have hD : Blk w4 (w.heap.size + 1) 23 (dst.map bv) := by rw [hw4]; exact ((Blk.new_at _ _ _ (by simp)).alloc _).alloc _
      have hM : Blk w4 (w.heap.size + 1 + 1) 29 [.int .i64 kd, .int .i64 cd, .int .u32 wd, .slice A n c] := by rw [hw4]; exact (Blk.new_at _ _ _ (by simp)).alloc _
      have ho4 : Own w4 w.heap.size 5 (some ⟨w.heap.size + 1 + 1 + 1, 0, none⟩) 4 4 [b8 kd, b8 cd, 0, 0] := by
        rw [hw4]; exact Own.made_at _ _ _ _ (by simp) rfl (by simp [bv_b8]; exact ⟨by omega, by omega, rfl⟩) (by simp) (by simp; omega)
      have hb4 : Below w.heap.size w w4 := by rw [hw4]; exact ((((Below.refl _ _).alloc (Nat.le_refl _) _).alloc (by simp) _).alloc (by simp; omega) _).alloc (by simp; omega) _
      have hx4 := hb4.size
      clear hw4
      refine (Put32_calls w.heap.size _ _ _ _ _ _ ho4 hx4 (by omega) hw0 HW1.out).mono ?_; rintro e w5 ⟨A5, n5, c5, rfl, ho5, hg5⟩
      have hS5 := hS.grown hg5 (ho4.apart hS (by decide))
      have hD5 := hD.grown hg5 (ho4.apart hD (by decide))
      have hM5 := hM.grown hg5 (ho4.apart hM (by decide))
      have hb5 := hb4.trans (below_grown hg5 ho4 (Nat.le_refl _) hx4)
      have hn5 : n5 = 8 := by have := ho5.len; simpa [four] using this
      subst hn5
      have c3 := hM5.cell (j := 3) rfl
      have hx5 := hb5.size
      have HS5 := hid hS5
      have HD5 := hid hD5
      have HB5 := hid hb5
      clear hS hD hM ho4 hb4 hg5 hS5 hD5 hM5 hb5 hx4
      go_wp2_with (at_builtin; refine stop ?_)
      refine Stop.on (wpList_app rfl _ _ 27 rfl 5 i0 Try.underlying27 hi hz0 hz1 hz2 w.heap.size _ _ rfl rfl ho5 (HH.out.step HB5.out) (by omega) hx5 ?_)
      intro A6 n6 c6 w6 ho6 hg6
      have hS6 := HS5.out.grown hg6 (ho5.apart HS5.out (by decide))
      have hD6 := HD5.out.grown hg6 (ho5.apart HD5.out (by decide))
      have hb6 := HB5.out.trans (below_grown hg6 ho5 (Nat.le_refl _) hx5)
      have hn6 : n6 ≤ 140737488351240 := by have := ho6.len_app ho5; have e := HH.out.len; omega
      have hi16 : (Try.prog.info? 23).map (·.size) = some 16 := by kernel_rfl
      have HLS := hid (hS6.ld_all (P := Try.prog) Try.underlying23 rfl (by rw [List.length_map, HS.out]; exact hi16))
      have HLD := hid (hD6.ld_all (P := Try.prog) Try.underlying23 rfl (by rw [List.length_map, HD.out]; exact hi16))
      have HB6 := hid hb6
      have HO6 : Hid (Own w6 w.heap.size 5 A6 n6 c6 (msg0 kd cd wd body)) := hid ho6
      clear hg6 ho5 c3 HS5 HD5 HB5 hS6 hD6 hb6 hi16 ho6
      go_wp2_with (with_reducible refine wpList_ld rfl (.agg (src.map bv).toArray) 23 (.tmp 3) (.pointer (some ⟨w.heap.size, 0, none⟩)) rfl rfl (HLS.out) ?_; refine stop ?_)
      refine Stop.on ?_
      go_wp2_with (with_reducible refine wpList_ld rfl (.agg (dst.map bv).toArray) 23 (.tmp 4) (.pointer (some ⟨w.heap.size + 1, 0, none⟩)) rfl rfl (HLD.out) ?_; refine stop ?_)
      refine Stop.on ?_
      go_wp2_with fail
      refine (Check_calls src dst 58 A6 n6 c6 (msg0 kd cd wd body) _ HS.out HD.out HO6.out.bs (by omega)).mono ?_; rintro e w7 ⟨rfl, hb7⟩
      have HB7 := hid (below_next HB6.out hb7)
      have HO7 := hid (HO6.out.step hb7)
      clear hb7 HLS HLD HB6 HO6
      go_wp2_with fail
      refine (Set16_calls A6 n6 c6 (msg0 kd cd wd body) 2 _ _ HO7.out.bs (by omega)).mono ?_; rintro e w8 ⟨A8, n8, c8, rfl, ho8, hb8⟩
      have hset : set16 (msg0 kd cd wd body) 2 (chk src dst 58 (msg0 kd cd wd body)) = (putM src dst kd cd wd body, true) := by
        rw [HP.out]; unfold set16; rw [if_pos ⟨by omega, by simp [msg0, four]; omega⟩]; rfl
      rw [hset] at ho8
      rw [hset]
      have hb8' := below_next HB7.out hb8
      have hx7 := HB7.out.size
      clear hset hb8 HO7 HB7
      go_wp2
      go_ret
      exact ⟨_, _, _, rfl, ho8.mono hx7, hb8'⟩
    · have k1' : octB cd = false := by simpa using k1
      have hput : putM src dst kd cd wd body = [] := if_neg (fun h => k1 h.2)
      have HP := hid hput
      have K0 := hid k0
      have K1 := hid k1'
      clear hput k0 k1 k1'
      go_enter Try.func21, Try.ntmps21
      go_wp2_with fail
      refine (octet_calls _ _).mono ?_; rintro e w' ⟨rfl, rfl⟩
      rw [K0.out]
      go_wp2_with fail
      refine (octet_calls _ _).mono ?_; rintro e w' ⟨rfl, rfl⟩
      rw [K1.out]
      go_wp2
      go_ret
      exact ⟨_, _, _, rfl, by rw [HP.out]; exact Own.nil _ _ _, (((Below.refl _ _).alloc (Nat.le_refl _) _).alloc (by simp) _).alloc (by simp; omega) _⟩
  · have k0' : octB kd = false := by simpa using k0
    have hput : putM src dst kd cd wd body = [] := if_neg (fun h => k0 h.1)
    have HP := hid hput
    have K0 := hid k0'
    clear hput k0 k0'
    go_enter Try.func21, Try.ntmps21
    go_wp2_with fail
    refine (octet_calls _ _).mono ?_; rintro e w' ⟨rfl, rfl⟩
    rw [K0.out]
    go_wp2
    go_ret
    exact ⟨_, _, _, rfl, by rw [HP.out]; exact Own.nil _ _ _, (((Below.refl _ _).alloc (Nat.le_refl _) _).alloc (by simp) _).alloc (by simp; omega) _⟩
end Go.Proofs.Ythbllfhaaidhjaa

namespace Go.Proofs.Ythbllfhaaidhjaa
open Go.RowKit Go.Mix Go.Bas

theorem set_two {l : List UInt8} {c : Int} (h : 4 ≤ l.length) : (l.set 2 (b8 (c / 256))).set 3 (b8 c) = l.take 2 ++ (two c ++ l.drop 4) := by
  match l, h with
  | a :: b :: x :: y :: r, _ => rfl

set_option maxRecDepth 8000 in
set_option maxHeartbeats 2000000 in
theorem rIPut_calls (src dst : List UInt8) (kd cd wd : Int) (A : Option Addr) (n c : Nat) (body : List UInt8) (w : World) (hs : src.length = 16) (hd : dst.length = 16) (h : Bs w A n c body) (hsz : n ≤ 140737488351232) (hw0 : 0 ≤ wd) (hw1 : wd < 4294967296) :
    Calls Try.prog 22 #[av src, av dst, .agg #[.int .i64 kd, .int .i64 cd, .int .u32 wd, .slice A n c]] w fun e w' => ∃ A' n' c', e = .returned (.slice A' n' c') ∧ Own w' w.heap.size 5 A' n' c' (putM src dst kd cd wd body) ∧ Below w.heap.size w w' := by
  obtain ⟨i0, hi, hz0, hz1, hz2⟩ := info_parts Try.infob
  unfold av
  have HH := hid h
  have HS := hid hs
  have HD := hid hd
  have HW1 := hid hw1
  clear h hs hd hw1
  by_cases r0 : 0 ≤ kd ∧ kd ≤ 255
  · obtain ⟨r00, r01⟩ := r0
    by_cases r1 : 0 ≤ cd ∧ cd ≤ 255
    · obtain ⟨r10, r11⟩ := r1
      have HP : Hid (putM src dst kd cd wd body = (msg0 kd cd wd body).take 2 ++ (two (chk src dst 58 (msg0 kd cd wd body)) ++ (msg0 kd cd wd body).drop 4)) := hid (if_pos ⟨octB_iff.2 ⟨r00, r01⟩, octB_iff.2 ⟨r10, r11⟩⟩)
      have d0 : decide (kd < 0) = false := by simp; omega
      have d1 : decide (255 < kd) = false := by simp; omega
      have d2 : decide (cd < 0) = false := by simp; omega
      have d3 : decide (255 < cd) = false := by simp; omega
      go_enter Try.func22, Try.ntmps22
      go_wp2_with fail
      refine wp_name ?_; intro w3 hw3
      have hS : Blk w3 w.heap.size 23 (src.map bv) := by rw [hw3]; exact ((Blk.new _ _ _).alloc _).alloc _
      have hD : Blk w3 (w.heap.size + 1) 23 (dst.map bv) := by rw [hw3]; exact (Blk.new_at _ _ _ (by simp)).alloc _
      have hM : Blk w3 (w.heap.size + 1 + 1) 29 [.int .i64 kd, .int .i64 cd, .int .u32 wd, .slice A n c] := by rw [hw3]; exact Blk.new_at _ _ _ (by simp)
      have hb3 : Below w.heap.size w w3 := by rw [hw3]; exact (((Below.refl _ _).alloc (Nat.le_refl _) _).alloc (by simp) _).alloc (by simp; omega) _
      have hx3 := hb3.size
      have hlM := hM.lt
      clear hw3
      have hne : Nonempty (SBW w3.heap.size w3) := Cls.ne (SB.refl (Nat.le_refl _))
      have f0 : ∀ u : SBW w3.heap.size w3, u.w.cell? ⟨w.heap.size + 1 + 1, 0, none⟩ = some (.int .i64 kd) := fun u => u.cell (hM.cell (j := 0) rfl) hlM
      have f1 : ∀ u : SBW w3.heap.size w3, u.w.cell? ⟨w.heap.size + 1 + 1, 1, none⟩ = some (.int .i64 cd) := fun u => u.cell (hM.cell (j := 1) rfl) hlM
      have f2 : ∀ u : SBW w3.heap.size w3, u.w.cell? ⟨w.heap.size + 1 + 1, 2, none⟩ = some (.int .u32 wd) := fun u => u.cell (hM.cell (j := 2) rfl) hlM
      have hq := SB.start (w0 := w3) (Nat.le_refl _)
      have HS3 := hid hS
      have HD3 := hid hD
      have HM3 := hid hM
      have HB3 := hid hb3
      clear hS hD hM hb3
      refine wp_region_segs (fun wq => ∃ u : SBW (w3.heap.size) (w3), wq = u.w) ((0, 0) :: (1, 0) :: (2, 0) :: (3, 0) :: (4, 0) :: (5, 0) :: (7, 0) :: (8, 0) :: (6, 2) :: (9, 2) :: (10, 1) :: (11, 0) :: []) (by kernel_rfl) (by kernel_rfl) (by kernel_rfl) (by kernel_rfl) (inC hq) ?_
      refine seg_held _ rfl ?_; go_big_quiet_step (fail); refine wpQuiet_nil ?_ -- 0 fieldAddr
      refine seg_held _ rfl ?_; go_big_quiet_step (fail); refine wpQuiet_nil ?_ -- 1 load
      refine seg_held _ rfl ?_; go_big_quiet_step (fail); refine wpQuiet_nil ?_ -- 2 convert
      refine seg_held _ rfl ?_; go_big_quiet_step (fail); refine wpQuiet_nil ?_ -- 3 fieldAddr
      refine seg_held _ rfl ?_; go_big_quiet_step (fail); refine wpQuiet_nil ?_ -- 4 load
      refine seg_held _ rfl ?_; go_big_quiet_step (fail); refine wpQuiet_nil ?_ -- 5 convert
      refine seg_held _ rfl ?_; go_big_quiet_step (fail); refine wpQuiet_nil ?_ -- 7 fieldAddr
      refine seg_held _ rfl ?_; go_big_quiet_step (fail); refine wpQuiet_nil ?_ -- 8 load
      refine seg_fork _ _ (fun a w2 => ∃ (A5 : Option Addr) (n5 c5 g : Nat), a = { tmps := #[.agg (List.map bv src).toArray, .agg (List.map bv dst).toArray, .agg #[.int .i64 kd, .int .i64 cd, .int .u32 wd, .slice A n c], .pointer (some ⟨w.heap.size, 0, none⟩), .pointer (some ⟨w.heap.size + 1, 0, none⟩), .pointer (some ⟨w.heap.size + 1 + 1, 0, none⟩), .slice none 0 0, undef, undef, .pointer (some ⟨w.heap.size + 1 + 1, 0, none⟩), .int .i64 kd, .bool false, .bool false, .pointer (some ⟨w.heap.size + 1 + 1, 0, none⟩), .int .i64 kd, .bool false, .bool false, .bool false, .pointer (some ⟨w.heap.size + 1 + 1, 1, none⟩), .int .i64 cd, .bool false, .bool false, .bool false, .pointer (some ⟨w.heap.size + 1 + 1, 1, none⟩), .int .i64 cd, .bool false, .bool false, .pointer (some ⟨w.heap.size + 1 + 1, 0, none⟩), .int .i64 kd, .int .u8 kd, .pointer (some ⟨w.heap.size + 1 + 1, 1, none⟩), .int .i64 cd, .int .u8 cd, .slice (some ⟨g, 0, none⟩) 4 4, .pointer (some ⟨w.heap.size + 1 + 1, 2, none⟩), .int .u32 wd, .slice A5 n5 c5, undef, undef, undef, undef, undef, undef, undef, undef, undef, undef, undef, undef, undef, undef, undef, undef, undef, undef, undef, undef, undef], defers := [] } ∧ Own w2 w3.heap.size 5 (some ⟨g, 0, none⟩) 4 4 [b8 kd, b8 cd, 0, 0] ∧ Own w2 w3.heap.size 5 A5 n5 c5 (four wd) ∧ SB w3.heap.size w3 w2) rfl rfl rfl rfl ?_ ?_ ?_
      · intro K hK
        go_wp2_with fail
        have hoA := (Own.made_at (base := w3.heap.size) (g := w3.heap.size) (m := 4) w3 5 [b8 kd, b8 cd, 0, 0] #[.int .u8 kd, .int .u8 cd, .int .u8 0, .int .u8 0] rfl rfl (by simp [bv_b8]; exact ⟨by omega, by omega, rfl⟩) (by simp) (Nat.le_refl _)).drew
        have hq4 : SB w3.heap.size w3 (w3.alloc (.cells #[.int .u8 kd, .int .u8 cd, .int .u8 0, .int .u8 0] 5)).drew := ((SB.refl (Nat.le_refl _)).alloc _).drew
        refine ⟨inC hq4, fun K' hK' => ?_⟩
        go_wp2_with fail
        refine (Four_calls _ _ hw0 HW1.out).mono ?_; rintro e w5 ⟨A5, n5, c5, rfl, ho5, hb5⟩
        have hq5 := hq4.step hb5
        have hoA5 := hoA.step hb5
        have ho5' := ho5.mono hq4.2
        clear hb5 hoA hq4 ho5
        go_wp2_with fail
        first | exact hK' _ _ ⟨A5, n5, c5, w3.heap.size, rfl, hoA5, ho5', hq5⟩ | exact hK' _ _ A5 n5 c5 _ rfl hoA5 ho5' hq5 | exact hK' _ _ A5 n5 c5 _ ⟨rfl, hoA5, ho5', hq5⟩ | exact ⟨A5, n5, c5, w3.heap.size, rfl, hoA5, ho5', hq5⟩
      · intro K hK
        go_wp2_with fail
        refine (Four_calls _ _ hw0 HW1.out).mono ?_; rintro e w5 ⟨A5, n5, c5, rfl, ho5, hb5⟩
        have hq5 := hq.step hb5
        have ho5' : Own w5 w3.heap.size 5 A5 n5 c5 (four wd) := ho5
        clear hb5
        go_wp2_with fail
        refine ⟨inC hq5, fun K' hK' => ?_⟩
        go_wp2_with fail
        have hoA := Own.made_at (base := w3.heap.size) (g := w5.heap.size) (m := 4) w5 5 [b8 kd, b8 cd, 0, 0] #[.int .u8 kd, .int .u8 cd, .int .u8 0, .int .u8 0] rfl rfl (by simp [bv_b8]; exact ⟨by omega, by omega, rfl⟩) (by simp) hq5.2
        have ho6 := ho5'.alloc (.cells #[.int .u8 kd, .int .u8 cd, .int .u8 0, .int .u8 0] 5)
        have hq6 := hq5.alloc (.cells #[.int .u8 kd, .int .u8 cd, .int .u8 0, .int .u8 0] 5)
        first | exact hK' _ _ ⟨A5, n5, c5, w5.heap.size, rfl, hoA, ho6, hq6⟩ | exact hK' _ _ A5 n5 c5 _ rfl hoA ho6 hq6 | exact hK' _ _ A5 n5 c5 _ ⟨rfl, hoA, ho6, hq6⟩ | exact ⟨A5, n5, c5, w5.heap.size, rfl, hoA, ho6, hq6⟩
      rintro _ w5 ⟨A5, n5, c5, g0, rfl, hoA5, ho5, hq5⟩
      refine ⟨_, fun _ h => h, inC hq5, ?_⟩
      have hn5 : n5 = 4 := ho5.len
      subst hn5
      refine seg_loud _ rfl rfl ?_; intro K hK -- 10 builtin:append
      refine wp_app (.tmp 33) (.tmp 36) 27 rfl 5 i0 Try.underlying27 hi hz0 hz1 hz2 w3.heap.size _ _ rfl rfl hoA5 ho5.bs (by omega) hq5.2 (fun A6 n6 c6 w6 ho6 hg6 => hK _ _ ?_)
      have hb6 := below_grown hg6 hoA5 (Nat.le_refl _) hq5.2
      have hq6 := hq5.low hb6
      refine ⟨_, fun _ h => h, inC hq6, ?_⟩
      go_frame
      refine seg_held _ rfl ?_; go_big_quiet_step (fail); refine wpQuiet_nil ?_ -- 11 assign
      refine seg_nil ?_
      have hM6 := HM3.out.below hlM hq6.1
      have c3 := hM6.cell (j := 3) rfl
      have hn6 : n6 = 8 := by have := ho6.len; simpa [four] using this
      subst hn6
      have HS6 := hid (HS3.out.below HS3.out.lt hq6.1)
      have HD6 := hid (HD3.out.below HD3.out.lt hq6.1)
      have HB6 := hid (HB3.out.trans (hq6.1.mono hx3))
      have hx6 := hq6.2
      clear hne f0 f1 f2 hq5 hoA5 hg6 hb6 ho5 hM6 HS3 HD3 HM3 HB3
      go_wp2_with (at_builtin; refine stop ?_)
      refine Stop.on (wpList_app rfl _ _ 27 rfl 5 i0 Try.underlying27 hi hz0 hz1 hz2 w3.heap.size _ _ rfl rfl ho6 (HH.out.step HB6.out) (by omega) hx6 ?_)
      intro A7 n7 c7 w7 ho7 hg7
      have hb7 := below_grown hg7 ho6 (Nat.le_refl _) hx6
      have hS7 := HS6.out.grown hg7 (ho6.apart HS6.out (by decide))
      have hD7 := HD6.out.grown hg7 (ho6.apart HD6.out (by decide))
      have hn7 : n7 ≤ 140737488351240 := by have := ho7.len_app ho6; have e := HH.out.len; omega
      have hn7' : 8 ≤ n7 := by have := ho7.len_app ho6; omega
      have hi16 : (Try.prog.info? 23).map (·.size) = some 16 := by kernel_rfl
      have HLS := hid (hS7.ld_all (P := Try.prog) Try.underlying23 rfl (by rw [List.length_map, HS.out]; exact hi16))
      have HLD := hid (hD7.ld_all (P := Try.prog) Try.underlying23 rfl (by rw [List.length_map, HD.out]; exact hi16))
      have HB7 := hid (HB6.out.trans (hb7.mono hx3))
      have HO7 : Hid (Own w7 w3.heap.size 5 A7 n7 c7 (msg0 kd cd wd body)) := hid ho7
      clear hg7 ho6 c3 HS6 HD6 HB6 hS7 hD7 hb7 hi16 ho7
      go_wp2_with (with_reducible refine wpList_ld rfl (.agg (src.map bv).toArray) 23 (.tmp 3) (.pointer (some ⟨w.heap.size, 0, none⟩)) rfl rfl (HLS.out) ?_; refine stop ?_)
      refine Stop.on ?_
      go_wp2_with (with_reducible refine wpList_ld rfl (.agg (dst.map bv).toArray) 23 (.tmp 4) (.pointer (some ⟨w.heap.size + 1, 0, none⟩)) rfl rfl (HLD.out) ?_; refine stop ?_)
      refine Stop.on ?_
      go_wp2_with fail
      refine (rCheck_calls src dst 58 A7 n7 c7 (msg0 kd cd wd body) _ HS.out HD.out HO7.out.bs (by omega)).mono ?_; rintro e w8 ⟨rfl, hb8⟩
      have HB8 := hid (below_next HB7.out hb8)
      have HO8 := hid (HO7.out.step hb8)
      clear hb8 HLS HLD HB7 HO7
      generalize hck : chk src dst 58 (msg0 kd cd wd body) = ck at *
      go_wp2_with fail
      refine (Two_calls _ _).mono ?_; rintro e w9 ⟨A9, n9, c9, rfl, ho9, hb9⟩
      have hn9 : n9 = 2 := ho9.len
      subst hn9
      obtain ⟨g, rfl, hg0, hg1⟩ := HO8.out.at_ (by omega)
      obtain ⟨g9, rfl, hg90, hg91⟩ := ho9.at_ (by omega)
      have ho8 := HO8.out.step hb9
      have HB9 := hid (below_next HB8.out hb9)
      have t0 := ho9.cell (j := 0) (by omega)
      have t1 := ho9.cell (j := 1) (by omega)
      have e0 : gt (two ck) 0 = ck / 256 % 256 := b8_toNat _
      have e1 : gt (two ck) 1 = ck % 256 := b8_toNat _
      rw [e0] at t0
      rw [e1] at t1
      have hz2' := ho8.cell (j := 2) (by omega)
      have hz3' := ho8.cell (j := 3) (by omega)
      have hf2 := ho8.free (j := 2)
      have hf3 := ho8.free (j := 3)
      have hx9 := HB9.out.size
      have hb9s := hb9.size
      have HO9 := hid ho8
      have hgs : g < w8.heap.size := hg1

      have HO99 := hid ho9
      clear ho8 hb9 HO8 HB8 hck e0 e1 t0 t1 ho9
      go_wp2_with fail
      have hne : Nonempty (Cls (fun wx : World => Own wx w8.heap.size 5 (some ⟨g9, 0, none⟩) 2 c9 (two ck))) := Cls.ne HO99.out
      have e0 : gt (two ck) 0 = ck / 256 % 256 := b8_toNat _
      have e1 : gt (two ck) 1 = ck % 256 := b8_toNat _
      have f0 : ∀ u : Cls (fun wx : World => Own wx w8.heap.size 5 (some ⟨g9, 0, none⟩) 2 c9 (two ck)), u.w.cell? ⟨g9, 0, none⟩ = some (.int .u8 (ck / 256 % 256)) := fun u => by rw [← e0]; exact Own.cell (j := 0) u.is (by omega)
      have f1 : ∀ u : Cls (fun wx : World => Own wx w8.heap.size 5 (some ⟨g9, 0, none⟩) 2 c9 (two ck)), u.w.cell? ⟨g9, 1, none⟩ = some (.int .u8 (ck % 256)) := fun u => by rw [← e1]; exact Own.cell (j := 1) u.is (by omega)
      clear e0 e1
      refine wp_region_segs (fun wq => ∃ u : Cls (fun wx : World => Own wx w8.heap.size 5 (some ⟨g9, 0, none⟩) 2 c9 (two ck)), wq = u.w) ((0, 0) :: (1, 0) :: (2, 0) :: (3, 0) :: (4, 0) :: (5, 0) :: (6, 0) :: (7, 0) :: (8, 0) :: (9, 1) :: (10, 0) :: (11, 1) :: []) (by kernel_rfl) (by kernel_rfl) (by kernel_rfl) (by kernel_rfl) (inC HO99.out.drew) ?_
      refine seg_held _ rfl ?_; go_big_quiet_step (fail); refine wpQuiet_nil ?_ -- 0 move
      refine seg_held _ rfl ?_; go_big_quiet_step (fail); refine wpQuiet_nil ?_ -- 1 move
      refine seg_held _ rfl ?_; go_big_quiet_step (fail); refine wpQuiet_nil ?_ -- 2 move
      refine seg_held _ rfl ?_; go_big_quiet_step (fail); refine wpQuiet_nil ?_ -- 3 indexAddr
      refine seg_held _ rfl ?_; go_big_quiet_step (fail); refine wpQuiet_nil ?_ -- 4 load
      refine seg_held _ rfl ?_; go_big_quiet_step (fail); refine wpQuiet_nil ?_ -- 5 move
      refine seg_held _ rfl ?_; go_big_quiet_step (fail); refine wpQuiet_nil ?_ -- 6 indexAddr
      refine seg_held _ rfl ?_; go_big_quiet_step (fail); refine wpQuiet_nil ?_ -- 7 load
      refine seg_held _ rfl ?_; go_big_quiet_step (fail); refine wpQuiet_nil ?_ -- 8 indexAddr
      refine seg_loud _ rfl rfl ?_; intro K hK -- 9 store
      go_wp2_with fail
      refine ⟨_, fun _ h => h, inC (Own.drew (HO99.out.far (p := ⟨g, 2, none⟩) hgs _)), ?_⟩
      refine seg_held _ rfl ?_; go_big_quiet_step (fail); refine wpQuiet_nil ?_ -- 10 indexAddr
      refine seg_loud _ rfl rfl ?_; intro K hK -- 11 store
      go_wp2_with fail
      refine ⟨_, fun _ h => h, inC (Own.drew ((HO99.out.far (p := ⟨g, 2, none⟩) hgs _).far (p := ⟨g, 3, none⟩) hgs _)), ?_⟩
      refine seg_name ?_; intro w10 hw10
      have hl4 : 4 ≤ (msg0 kd cd wd body).length := by simp [msg0]
      have ho10 : Own w10 w3.heap.size 5 (some ⟨g, 0, none⟩) n7 c7 (putM src dst kd cd wd body) := by
        have := (HO9.out.store (j := 2) (b8 (ck / 256))).store (j := 3) (b8 ck)
        rw [set_two hl4, bv_b8, bv_b8] at this
        rw [HP.out, hw10]
        exact this.drew
      have hb10 : Below w.heap.size w w10 := by rw [hw10]; exact ((HB9.out.setCell (by show w.heap.size ≤ g; omega) _).setCell (by show w.heap.size ≤ g; omega) _).drew
      have HO10 := hid ho10
      have HB10 := hid hb10
      clear hne f0 f1 hw10 ho10 hb10 HO9 HB9 HO99 hz2' hz3' hf2 hf3
      go_wp2
      go_ret
      exact ⟨_, _, _, rfl, HO10.out.mono hx3, HB10.out⟩
    · have HP : Hid (putM src dst kd cd wd body = []) := hid (if_neg (fun h => r1 (octB_iff.1 h.2)))
      have d0 : decide (kd < 0) = false := by simp; omega
      have d1 : decide (255 < kd) = false := by simp; omega
      rcases (show cd < 0 ∨ 255 < cd by omega) with k | k
      all_goals
        clear r1
        go_enter Try.func22, Try.ntmps22
        go_wp2
        go_ret
        exact ⟨_, _, _, rfl, by rw [HP.out]; exact Own.nil _ _ _, (((Below.refl _ _).alloc (Nat.le_refl _) _).alloc (by simp) _).alloc (by simp; omega) _⟩
  · have HP : Hid (putM src dst kd cd wd body = []) := hid (if_neg (fun h => r0 (octB_iff.1 h.1)))
    rcases (show kd < 0 ∨ 255 < kd by omega) with k | k
    all_goals
      clear r0
      go_enter Try.func22, Try.ntmps22
      go_wp2
      go_ret
      exact ⟨_, _, _, rfl, by rw [HP.out]; exact Own.nil _ _ _, (((Below.refl _ _).alloc (Nat.le_refl _) _).alloc (by simp) _).alloc (by simp; omega) _⟩
end Go.Proofs.Ythbllfhaaidhjaa

namespace Go.Proofs.Ythbllfhaaidhjaa
open Go Go.Am Go.RowKit Go.Mix Go.Bas
section
set_option maxRecDepth 100000
noncomputable def af_octet : AF := afOf Try.prog Try.f70 []
theorem af_octet_ok : AllOk Try.prog 70 af_octet := .flat Try.func70 (by kernel_rfl) (by kernel_rfl) (by kernel_rfl) (by kernel_rfl) (by kernel_rfl)
noncomputable def af_bad : AF := afOf Try.prog Try.f81 []
theorem af_bad_ok : AllOk Try.prog 81 af_bad := .flat Try.func81 (by kernel_rfl) (by kernel_rfl) (by kernel_rfl) (by kernel_rfl) (by kernel_rfl)
noncomputable def af_known : AF := afOf Try.prog Try.f78 []
theorem af_known_ok : AllOk Try.prog 78 af_known := .flat Try.func78 (by kernel_rfl) (by kernel_rfl) (by kernel_rfl) (by kernel_rfl) (by kernel_rfl)
noncomputable def af_Put32 : AF := afOf Try.prog Try.f71 []
theorem af_Put32_ok : AllOk Try.prog 71 af_Put32 := .flat Try.func71 (by kernel_rfl) (by kernel_rfl) (by kernel_rfl) (by kernel_rfl) (by kernel_rfl)
noncomputable def af_two8 : AF := afOf Try.prog Try.f116 []
theorem af_two8_ok : AllOk Try.prog 116 af_two8 := .flat Try.func116 (by kernel_rfl) (by kernel_rfl) (by kernel_rfl) (by kernel_rfl) (by kernel_rfl)
noncomputable def af_IPut : AF := afOf Try.prog Try.f21 []
theorem af_IPut_ok : AllOk Try.prog 21 af_IPut := .flat Try.func21 (by kernel_rfl) (by kernel_rfl) (by kernel_rfl) (by kernel_rfl) (by kernel_rfl)
noncomputable def af_IReply : AF := afOf Try.prog Try.f23 []
theorem af_IReply_ok : AllOk Try.prog 23 af_IReply := .flat Try.func23 (by kernel_rfl) (by kernel_rfl) (by kernel_rfl) (by kernel_rfl) (by kernel_rfl)
noncomputable def af_IAbout : AF := afOf Try.prog Try.f25 []
theorem af_IAbout_ok : AllOk Try.prog 25 af_IAbout := .flat Try.func25 (by kernel_rfl) (by kernel_rfl) (by kernel_rfl) (by kernel_rfl) (by kernel_rfl)
noncomputable def af_IsError : AF := afOf Try.prog Try.f28 []
theorem af_IsError_ok : AllOk Try.prog 28 af_IsError := .flat Try.func28 (by kernel_rfl) (by kernel_rfl) (by kernel_rfl) (by kernel_rfl) (by kernel_rfl)
noncomputable def af_lives8 : AF := afOf Try.prog Try.f20 []
theorem af_lives8_ok : AllOk Try.prog 20 af_lives8 := .flat Try.func20 (by kernel_rfl) (by kernel_rfl) (by kernel_rfl) (by kernel_rfl) (by kernel_rfl)

noncomputable def G8 : List (Nat × Con) := [(72, .val [.bytes, .int .i64, .int .i64] cSet16), (73, .val [.barr 16, .barr 16, .int .i64, .bytes] cChk), (87, .val [.barr 16, .barr 16, .int .i64, .bytes] cFine), (77, .val [.bytes] cClone)]
theorem G8_ok : GOk Try.prog G8 := .cons (enters_of Try.func72 (by kernel_rfl) rfl) Set16_con <| .cons (enters_of Try.func73 (by kernel_rfl) rfl) Chk_con <| .cons (enters_of Try.func87 (by kernel_rfl) rfl) Fine_con <| .cons (enters_of Try.func77 (by kernel_rfl) rfl) Clone_con <| .nil
noncomputable def I8 : List (Nat × AF) := [(70, af_octet), (81, af_bad), (78, af_known), (71, af_Put32), (21, af_IPut), (23, af_IReply), (25, af_IAbout), (28, af_IsError)]
theorem I8_ok : IOk Try.prog I8 := .cons af_octet_ok <| .cons af_bad_ok <| .cons af_known_ok <| .cons af_Put32_ok <| .cons af_IPut_ok <| .cons af_IReply_ok <| .cons af_IAbout_ok <| .cons af_IsError_ok <| .nil
noncomputable def E8 : Env := ⟨Try.prog, G8, I8, []⟩
theorem E8_ok : EnvOk E8 := ⟨by kernel_rfl, G8_ok, I8_ok, COk.nil⟩
theorem lives8_v : callV E8 af_lives8 [] = some (.bool true) := by kernel_rfl
theorem lives8_calls (w : World) : Calls Try.prog 20 #[] w fun e w' => e = .returned (.bool true) ∧ Below w.heap.size w w' := (callV_ok E8_ok af_lives8_ok lives8_v).true .nil
end
end Go.Proofs.Ythbllfhaaidhjaa

namespace Go.Proofs.Ythbllfhaaidhjaa
open Go Go.Am Go.RowKit Go.Mix Go.Bas

theorem msg_inv {O : Nat → Prop} {w : World} {kd cd wd : Int} {body : List UInt8} {c : Value} (h : VRep no O w (.agg [.int .i64 kd, .int .i64 cd, .int .u32 wd, .bytes body]) c) :
    ∃ A n k, c = .agg #[.int .i64 kd, .int .i64 cd, .int .u32 wd, .slice A n k] ∧ Bs w A n k body := by
  obtain ⟨cs, rfl, hc⟩ := h.agg_inv rfl
  cases hc with
  | agg h1 =>
    cases h1 with
    | cons a h1 =>
      cases a
      cases h1 with
      | cons a h1 =>
        cases a
        cases h1 with
        | cons a h1 =>
          cases a
          cases h1 with
          | cons a h1 =>
            cases h1
            cases a with
            | bytes hb _ => exact ⟨_, _, _, rfl, hb⟩
def cPut : List V → Option (V × Bool)
  | [.barr 16 s, .barr 16 d, .agg [.int .i64 kd, .int .i64 cd, .int .u32 wd, .bytes body]] => some (.ownv 5 (.bytes (putM s d kd cd wd body)), decide (body.length ≤ 140737488351232 ∧ 0 ≤ wd ∧ wd < 4294967296))
  | _ => none
theorem IPut_con : ∀ vs v, cPut vs = some (v, true) → SpecV Try.prog 21 vs v := by
  intro vs v h; unfold cPut at h; split at h
  · injection h with h; injection h with h hb; subst h
    have hb := of_decide_eq_true hb
    intro O w cs hO hv
    obtain ⟨a, b, c, rfl, ha, hb', hc⟩ := hv.three_inv
    obtain ⟨rfl, h1⟩ := ha.barr_inv
    obtain ⟨rfl, h2⟩ := hb'.barr_inv
    obtain ⟨A, n, k, rfl, hA⟩ := msg_inv hc
    exact kOwn (IPut_calls _ _ _ _ _ _ _ _ _ _ h1 h2 hA (by have := hA.len; omega) hb.2.1 hb.2.2)
  · cases h
theorem rIPut_con : ∀ vs v, cPut vs = some (v, true) → SpecV Try.prog 22 vs v := by
  intro vs v h; unfold cPut at h; split at h
  · injection h with h; injection h with h hb; subst h
    have hb := of_decide_eq_true hb
    intro O w cs hO hv
    obtain ⟨a, b, c, rfl, ha, hb', hc⟩ := hv.three_inv
    obtain ⟨rfl, h1⟩ := ha.barr_inv
    obtain ⟨rfl, h2⟩ := hb'.barr_inv
    obtain ⟨A, n, k, rfl, hA⟩ := msg_inv hc
    exact kOwn (rIPut_calls _ _ _ _ _ _ _ _ _ _ h1 h2 hA (by have := hA.len; omega) hb.2.1 hb.2.2)
  · cases h
end Go.Proofs.Ythbllfhaaidhjaa

namespace Go.Proofs.Ythbllfhaaidhjaa
open Go Go.Am Go.RowKit Go.Mix Go.Bas
def parI (e x : Int) : Int := if e = 0 then x else 0
def parA (e : Int) (l : List UInt8) : List UInt8 := if e = 0 then l else List.replicate 16 0
def geE (b : List UInt8) : Int := if b.length < 40 then 3 else if gt b 0 / 16 = 6 then 0 else 5
def hC (b : List UInt8) : Int := parI (geE b) (gt b 0 % 16 * 16 + gt b 1 / 16)
def hLa (b : List UInt8) : Int := parI (geE b) (gt b 1 % 16 * 65536 + gt b 2 * 256 + gt b 3)
def hLn (b : List UInt8) : Int := parI (geE b) (gt b 4 * 256 + gt b 5)
def hNx (b : List UInt8) : Int := parI (geE b) (gt b 6)
def hHp (b : List UInt8) : Int := parI (geE b) (gt b 7)
def hS (b : List UInt8) : List UInt8 := parA (geE b) (cutL b 8 24)
def hD (b : List UInt8) : List UInt8 := parA (geE b) (cutL b 24 40)
def getV (b : List UInt8) : V := .tup [.agg [.int .i64 (hC b), .int .i64 (hLa b), .int .i64 (hLn b), .int .i64 (hNx b), .int .i64 (hHp b), .barr 16 (hS b), .barr 16 (hD b)], .int .i64 (geE b)]
def cGet : List V → Option (V × Bool)
  | [.bytes b] => some (getV b, true)
  | _ => none
set_option maxRecDepth 100000
noncomputable def af_SixGet : AF := afOf Try.prog Try.f120 []
theorem af_SixGet_ok : AllOk Try.prog 120 af_SixGet := .flat Try.func120 (by kernel_rfl) (by kernel_rfl) (by kernel_rfl) (by kernel_rfl) (by kernel_rfl)
noncomputable def af_rSixGet : AF := afOf Try.prog Try.f80 [.unr 17]
theorem af_rSixGet_ok : AllOk Try.prog 80 af_rSixGet := .flat Try.func80 (by kernel_rfl) (by kernel_rfl) (by kernel_rfl) (by kernel_rfl) (by kernel_rfl)
noncomputable def GEsx : List (Nat × Con) := [(88, .val [.bytes, .int .i64] cU32), (92, .val [.bytes, .int .i64] cU16)]
theorem GEsx_ok : GOk Try.prog GEsx := .cons (enters_of Try.func88 (by kernel_rfl) rfl) U32_con <| .cons (enters_of Try.func92 (by kernel_rfl) rfl) U16_con <| .nil
noncomputable def IEsx : List (Nat × AF) := []
theorem IEsx_ok : IOk Try.prog IEsx := .nil
noncomputable def CEsx : List (Nat × (List Nat × (S → Option S))) := []
theorem CEsx_ok : COk Try.prog CEsx := .nil
noncomputable def Esx : Env := ⟨Try.prog, GEsx, IEsx, CEsx⟩
theorem Esx_ok : EnvOk Esx := ⟨by kernel_rfl, GEsx_ok, IEsx_ok, CEsx_ok⟩
theorem SixGet_t (b : List UInt8) : callV Esx af_SixGet [.bytes b] =
    bif decide ((↑b.length : Int) < (40 : Int)) then
        some
          (V.tup
            [V.agg
                [V.int IntKind.i64 (0 : Int), V.int IntKind.i64 (0 : Int), V.int IntKind.i64 (0 : Int),
                  V.int IntKind.i64 (0 : Int), V.int IntKind.i64 (0 : Int),
                  V.barr (16 : Nat) (List.replicate (16 : Nat) (0 : UInt8)),
                  V.barr (16 : Nat) (List.replicate (16 : Nat) (0 : UInt8))],
              V.int IntKind.i64 (3 : Int)])
      else
        bif (u32 b (0 : Int)).1.fdiv (268435456 : Int) != (6 : Int) then
          some
            (V.tup
              [V.agg
                  [V.int IntKind.i64 (0 : Int), V.int IntKind.i64 (0 : Int), V.int IntKind.i64 (0 : Int),
                    V.int IntKind.i64 (0 : Int), V.int IntKind.i64 (0 : Int),
                    V.barr (16 : Nat) (List.replicate (16 : Nat) (0 : UInt8)),
                    V.barr (16 : Nat) (List.replicate (16 : Nat) (0 : UInt8))],
                V.int IntKind.i64 (5 : Int)])
        else
          bif andT (andT true (inB (6 : Int) b.length)) (inB (7 : Int) b.length) && true then
            bif andT true (Am.inC (24 : Int) b.length) && true then
              bif andT true (Am.inC (40 : Int) b.length) && true then
                some
                  (V.tup
                    [V.agg
                        [V.int IntKind.i64
                            (IntKind.i64.wrap
                              (bits BinOp.and IntKind.u32 ((u32 b (0 : Int)).1.fdiv (1048576 : Int)) (255 : Int))),
                          V.int IntKind.i64
                            (IntKind.i64.wrap (bits BinOp.and IntKind.u32 (u32 b (0 : Int)).1 (1048575 : Int))),
                          V.int IntKind.i64 (u16 b (4 : Int)).1, V.int IntKind.i64 (IntKind.i64.wrap (gt b (6 : Nat))),
                          V.int IntKind.i64 (IntKind.i64.wrap (gt b (7 : Nat))),
                          V.barr (16 : Nat)
                            (cpL (List.replicate (16 : Nat) (0 : UInt8)) (0 : Nat) (16 : Nat)
                              (cutL b (8 : Nat) (24 : Nat))),
                          V.barr (16 : Nat)
                            (cpL (List.replicate (16 : Nat) (0 : UInt8)) (0 : Nat) (16 : Nat)
                              (cutL b (24 : Nat) (40 : Nat)))],
                      V.int IntKind.i64 (0 : Int)])
              else none
            else none
          else none := by kernel_rfl

theorem rSixGet_t (b : List UInt8) : callV Esx af_rSixGet [.bytes b] =
    bif decide ((↑b.length : Int) < (40 : Int)) then
        some
          (V.tup
            [V.agg
                [V.int IntKind.i64 (0 : Int), V.int IntKind.i64 (0 : Int), V.int IntKind.i64 (0 : Int),
                  V.int IntKind.i64 (0 : Int), V.int IntKind.i64 (0 : Int),
                  V.barr (16 : Nat) (List.replicate (16 : Nat) (0 : UInt8)),
                  V.barr (16 : Nat) (List.replicate (16 : Nat) (0 : UInt8))],
              V.int IntKind.i64 (3 : Int)])
      else
        bif andT true (inB (0 : Int) b.length) then
          bif IntKind.u8.wrap ((gt b (0 : Nat)).tdiv (16 : Int)) != (6 : Int) then
            some
              (V.tup
                [V.agg
                    [V.int IntKind.i64 (0 : Int), V.int IntKind.i64 (0 : Int), V.int IntKind.i64 (0 : Int),
                      V.int IntKind.i64 (0 : Int), V.int IntKind.i64 (0 : Int),
                      V.barr (16 : Nat) (List.replicate (16 : Nat) (0 : UInt8)),
                      V.barr (16 : Nat) (List.replicate (16 : Nat) (0 : UInt8))],
                  V.int IntKind.i64 (5 : Int)])
          else
            bif
                andT
                    (andT
                      (andT
                        (andT
                          (andT
                            (andT
                              (andT (andT (andT true (inB (0 : Int) b.length)) (inB (1 : Int) b.length))
                                (inB (1 : Int) b.length))
                              (inB (2 : Int) b.length))
                            (inB (3 : Int) b.length))
                          (inB (4 : Int) b.length))
                        (inB (5 : Int) b.length))
                      (inB (6 : Int) b.length))
                    (inB (7 : Int) b.length) &&
                  true then
              bif andT (andT true (inB (8 : Int) b.length)) (inB (24 : Int) b.length) && true then
                bif andT (andT true (inB (9 : Int) b.length)) (inB (25 : Int) b.length) && true then
                  bif andT (andT true (inB (10 : Int) b.length)) (inB (26 : Int) b.length) && true then
                    bif andT (andT true (inB (11 : Int) b.length)) (inB (27 : Int) b.length) && true then
                      bif andT (andT true (inB (12 : Int) b.length)) (inB (28 : Int) b.length) && true then
                        bif andT (andT true (inB (13 : Int) b.length)) (inB (29 : Int) b.length) && true then
                          bif andT (andT true (inB (14 : Int) b.length)) (inB (30 : Int) b.length) && true then
                            bif andT (andT true (inB (15 : Int) b.length)) (inB (31 : Int) b.length) && true then
                              bif andT (andT true (inB (16 : Int) b.length)) (inB (32 : Int) b.length) && true then
                                bif andT (andT true (inB (17 : Int) b.length)) (inB (33 : Int) b.length) && true then
                                  bif andT (andT true (inB (18 : Int) b.length)) (inB (34 : Int) b.length) && true then
                                    bif andT (andT true (inB (19 : Int) b.length)) (inB (35 : Int) b.length) && true then
                                      bif andT (andT true (inB (20 : Int) b.length)) (inB (36 : Int) b.length) && true then
                                        bif
                                            andT (andT true (inB (21 : Int) b.length)) (inB (37 : Int) b.length) &&
                                              true then
                                          bif
                                              andT (andT true (inB (22 : Int) b.length)) (inB (38 : Int) b.length) &&
                                                true then
                                            bif
                                                andT (andT true (inB (23 : Int) b.length)) (inB (39 : Int) b.length) &&
                                                  true then
                                              some
                                                (V.tup
                                                  [V.agg
                                                      [V.int IntKind.i64
                                                          (IntKind.i64.wrap
                                                            (IntKind.i64.wrap
                                                                (IntKind.i64.wrap ((gt b (0 : Nat)).tmod (16 : Int)) *
                                                                  (16 : Int)) +
                                                              IntKind.i64.wrap
                                                                (IntKind.u8.wrap ((gt b (1 : Nat)).tdiv (16 : Int))))),
                                                        V.int IntKind.i64
                                                          (IntKind.i64.wrap
                                                            (IntKind.i64.wrap
                                                                (IntKind.i64.wrap
                                                                    (IntKind.i64.wrap ((gt b (1 : Nat)).tmod (16 : Int)) *
                                                                      (65536 : Int)) +
                                                                  IntKind.i64.wrap
                                                                    (IntKind.i64.wrap (gt b (2 : Nat)) * (256 : Int))) +
                                                              IntKind.i64.wrap (gt b (3 : Nat)))),
                                                        V.int IntKind.i64
                                                          (IntKind.i64.wrap
                                                            (IntKind.i64.wrap
                                                                (IntKind.i64.wrap (gt b (4 : Nat)) * (256 : Int)) +
                                                              IntKind.i64.wrap (gt b (5 : Nat)))),
                                                        V.int IntKind.i64 (IntKind.i64.wrap (gt b (6 : Nat))),
                                                        V.int IntKind.i64 (IntKind.i64.wrap (gt b (7 : Nat))),
                                                        V.barr (16 : Nat)
                                                          (((((((((((((((((List.replicate (16 : Nat) (0 : UInt8)).set
                                                                                                                        (0 :
                                                                                                                          Nat)
                                                                                                                        (u8
                                                                                                                          (gt
                                                                                                                            b
                                                                                                                            (8 :
                                                                                                                              Nat)))).set
                                                                                                                    (1 :
                                                                                                                      Nat)
                                                                                                                    (u8
                                                                                                                      (gt b
                                                                                                                        (9 :
                                                                                                                          Nat)))).set
                                                                                                                (2 : Nat)
                                                                                                                (u8
                                                                                                                  (gt b
                                                                                                                    (10 :
                                                                                                                      Nat)))).set
                                                                                                            (3 : Nat)
                                                                                                            (u8
                                                                                                              (gt b
                                                                                                                (11 :
                                                                                                                  Nat)))).set
                                                                                                        (4 : Nat)
                                                                                                        (u8
                                                                                                          (gt b
                                                                                                            (12 :
                                                                                                              Nat)))).set
                                                                                                    (5 : Nat)
                                                                                                    (u8
                                                                                                      (gt b
                                                                                                        (13 : Nat)))).set
                                                                                                (6 : Nat)
                                                                                                (u8 (gt b (14 : Nat)))).set
                                                                                            (7 : Nat)
                                                                                            (u8 (gt b (15 : Nat)))).set
                                                                                        (8 : Nat)
                                                                                        (u8 (gt b (16 : Nat)))).set
                                                                                    (9 : Nat) (u8 (gt b (17 : Nat)))).set
                                                                                (10 : Nat) (u8 (gt b (18 : Nat)))).set
                                                                            (11 : Nat) (u8 (gt b (19 : Nat)))).set
                                                                        (12 : Nat) (u8 (gt b (20 : Nat)))).set
                                                                    (13 : Nat) (u8 (gt b (21 : Nat)))).set
                                                                (14 : Nat) (u8 (gt b (22 : Nat)))).set
                                                            (15 : Nat) (u8 (gt b (23 : Nat)))),
                                                        V.barr (16 : Nat)
                                                          (((((((((((((((((List.replicate (16 : Nat) (0 : UInt8)).set
                                                                                                                        (0 :
                                                                                                                          Nat)
                                                                                                                        (u8
                                                                                                                          (gt
                                                                                                                            b
                                                                                                                            (24 :
                                                                                                                              Nat)))).set
                                                                                                                    (1 :
                                                                                                                      Nat)
                                                                                                                    (u8
                                                                                                                      (gt b
                                                                                                                        (25 :
                                                                                                                          Nat)))).set
                                                                                                                (2 : Nat)
                                                                                                                (u8
                                                                                                                  (gt b
                                                                                                                    (26 :
                                                                                                                      Nat)))).set
                                                                                                            (3 : Nat)
                                                                                                            (u8
                                                                                                              (gt b
                                                                                                                (27 :
                                                                                                                  Nat)))).set
                                                                                                        (4 : Nat)
                                                                                                        (u8
                                                                                                          (gt b
                                                                                                            (28 :
                                                                                                              Nat)))).set
                                                                                                    (5 : Nat)
                                                                                                    (u8
                                                                                                      (gt b
                                                                                                        (29 : Nat)))).set
                                                                                                (6 : Nat)
                                                                                                (u8 (gt b (30 : Nat)))).set
                                                                                            (7 : Nat)
                                                                                            (u8 (gt b (31 : Nat)))).set
                                                                                        (8 : Nat)
                                                                                        (u8 (gt b (32 : Nat)))).set
                                                                                    (9 : Nat) (u8 (gt b (33 : Nat)))).set
                                                                                (10 : Nat) (u8 (gt b (34 : Nat)))).set
                                                                            (11 : Nat) (u8 (gt b (35 : Nat)))).set
                                                                        (12 : Nat) (u8 (gt b (36 : Nat)))).set
                                                                    (13 : Nat) (u8 (gt b (37 : Nat)))).set
                                                                (14 : Nat) (u8 (gt b (38 : Nat)))).set
                                                            (15 : Nat) (u8 (gt b (39 : Nat))))],
                                                    V.int IntKind.i64 (0 : Int)])
                                            else none
                                          else none
                                        else none
                                      else none
                                    else none
                                  else none
                                else none
                              else none
                            else none
                          else none
                        else none
                      else none
                    else none
                  else none
                else none
              else none
            else none
        else none := by kernel_rfl

theorem SixGet_v (b : List UInt8) : callV Esx af_SixGet [.bytes b] = some (getV b) := by
  rw [SixGet_t]
  unfold getV hC hLa hLn hNx hHp hS hD
  by_cases h : b.length < 40
  · have he : geE b = 3 := if_pos h
    rw [he]
    simp (disch := omega) only [dec_t, cond_true, parI, parA]
    rfl
  · have g0 := gt_lo b 0; have g0' := gt_hi b 0
    have g1 := gt_lo b 1; have g1' := gt_hi b 1
    have g2 := gt_lo b 2; have g2' := gt_hi b 2
    have g3 := gt_lo b 3; have g3' := gt_hi b 3
    have g6 := gt_lo b 6; have g6' := gt_hi b 6
    have g7 := gt_lo b 7; have g7' := gt_hi b 7
    have hu : (u32 b 0).1 = be32 b 0 := by unfold u32; rw [if_pos (by omega)]; rfl
    have hv : (u16 b 4).1 = gt b 4 * 256 + gt b 5 := by unfold u16; rw [if_pos (by omega)]; rfl
    have hb : be32 b 0 = ((gt b 0 * 256 + gt b 1) * 256 + gt b 2) * 256 + gt b 3 := rfl
    have m1 : bits .and .u32 (be32 b 0 / 1048576) 255 = (be32 b 0 / 1048576) % 256 := and_mask_u32 _ 8 (by omega) (by omega) (by omega)
    have m2 : bits .and .u32 (be32 b 0) 1048575 = be32 b 0 % 1048576 := and_mask_u32 _ 20 (by omega) (by omega) (by omega)
    rw [hu, hv]
    simp (disch := omega) only [dec_f, cond_false, fdv, inB_t, inC_t, andT_t, Bool.and_true, cond_true, m1, m2, w64]
    by_cases h6 : gt b 0 / 16 = 6
    · have he : geE b = 0 := by unfold geE; rw [if_neg h, if_pos h6]
      rw [he, ine_f (by omega)]
      simp only [cond_false, parI, parA, if_true]
      have c1 : cpL (List.replicate 16 0) 0 16 (cutL b 8 24) = cutL b 8 24 := cpL_full (l := List.replicate 16 0) (by rw [length_cutL, List.length_replicate]; omega)
      have c2 : cpL (List.replicate 16 0) 0 16 (cutL b 24 40) = cutL b 24 40 := cpL_full (l := List.replicate 16 0) (by rw [length_cutL, List.length_replicate]; omega)
      rw [c1, c2, show be32 b 0 / 1048576 % 256 = gt b 0 % 16 * 16 + gt b 1 / 16 by omega, show be32 b 0 % 1048576 = gt b 1 % 16 * 65536 + gt b 2 * 256 + gt b 3 by omega]
    · have he : geE b = 5 := by unfold geE; rw [if_neg h, if_neg h6]
      rw [he, ine_t (by omega)]
      simp only [cond_true, parI, parA]
      rfl
theorem take_get {l : List UInt8} {i n : Nat} (h : i < l.length) : (l.drop i).take (n + 1) = l.getD i 0 :: (l.drop (i + 1)).take n := by
  rw [List.drop_eq_getElem_cons h, List.take_succ_cons, List.getD_eq_getElem?_getD, List.getElem?_eq_getElem h]
  rfl
theorem cut16 {l : List UInt8} {i : Nat} (h : i + 16 ≤ l.length) : (l.drop i).take 16 = [l.getD i 0, l.getD (i + 1) 0, l.getD (i + 2) 0, l.getD (i + 3) 0, l.getD (i + 4) 0, l.getD (i + 5) 0, l.getD (i + 6) 0, l.getD (i + 7) 0, l.getD (i + 8) 0, l.getD (i + 9) 0, l.getD (i + 10) 0, l.getD (i + 11) 0, l.getD (i + 12) 0, l.getD (i + 13) 0, l.getD (i + 14) 0, l.getD (i + 15) 0] := by
  rw [take_get (by omega), take_get (by omega), take_get (by omega), take_get (by omega), take_get (by omega), take_get (by omega), take_get (by omega), take_get (by omega), take_get (by omega), take_get (by omega), take_get (by omega), take_get (by omega), take_get (by omega), take_get (by omega), take_get (by omega), take_get (by omega), List.take_zero]
theorem rSixGet_v (b : List UInt8) : callV Esx af_rSixGet [.bytes b] = some (getV b) := by
  rw [rSixGet_t]
  unfold getV hC hLa hLn hNx hHp hS hD
  by_cases h : b.length < 40
  · have he : geE b = 3 := if_pos h
    rw [he]
    simp (disch := omega) only [dec_t, cond_true, parI, parA]
    rfl
  · have g0 := gt_lo b 0; have g0' := gt_hi b 0
    have g1 := gt_lo b 1; have g1' := gt_hi b 1
    have g2 := gt_lo b 2; have g2' := gt_hi b 2
    have g3 := gt_lo b 3; have g3' := gt_hi b 3
    have g4 := gt_lo b 4; have g4' := gt_hi b 4
    have g5 := gt_lo b 5; have g5' := gt_hi b 5
    have g6 := gt_lo b 6; have g6' := gt_hi b 6
    have g7 := gt_lo b 7; have g7' := gt_hi b 7
    simp (disch := omega) only [dec_f, cond_false, inB_t, inC_t, andT_t, Bool.and_true, cond_true, tdv, tmd, wu8, w64, u8_gt]
    by_cases h6 : gt b 0 / 16 = 6
    · have he : geE b = 0 := by unfold geE; rw [if_neg h, if_pos h6]
      rw [he, ine_f (by omega)]
      have c1 : cutL b 8 24 = _ := cut16 (l := b) (i := 8) (by omega)
      have c2 : cutL b 24 40 = _ := cut16 (l := b) (i := 24) (by omega)
      simp only [cond_false, parI, parA, if_true, c1, c2]
      rfl
    · have he : geE b = 5 := by unfold geE; rw [if_neg h, if_neg h6]
      rw [he, ine_t (by omega)]
      simp only [cond_true, parI, parA]
      rfl
theorem SixGet_con : ∀ vs v, cGet vs = some (v, true) → SpecV Try.prog 120 vs v := by
  intro vs v h; unfold cGet at h; split at h
  · rename_i b
    injection h with h; injection h with h hb; subst h
    exact callV_ok Esx_ok af_SixGet_ok (SixGet_v b)
  · cases h
theorem rSixGet_con : ∀ vs v, cGet vs = some (v, true) → SpecV Try.prog 80 vs v := by
  intro vs v h; unfold cGet at h; split at h
  · rename_i b
    injection h with h; injection h with h hb; subst h
    exact callV_ok Esx_ok af_rSixGet_ok (rSixGet_v b)
  · cases h
end Go.Proofs.Ythbllfhaaidhjaa

namespace Go.Proofs.Ythbllfhaaidhjaa
open Go Go.Am Go.RowKit Go.Mix Go.Bas
set_option maxRecDepth 100000
def cTrue : List V → Option (V × Bool)
  | [] => some (.bool true, true)
  | _ => none
theorem lives8_con : ∀ vs v, cTrue vs = some (v, true) → SpecV Try.prog 20 vs v := by
  intro vs v h; unfold cTrue at h; split at h
  · injection h with h; injection h with h hb; subst h
    exact callV_ok E8_ok af_lives8_ok lives8_v
  · cases h
noncomputable def af_IParse : AF := afOf Try.prog Try.f37 []
theorem af_IParse_ok : AllOk Try.prog 37 af_IParse := .flat Try.func37 (by kernel_rfl) (by kernel_rfl) (by kernel_rfl) (by kernel_rfl) (by kernel_rfl)
noncomputable def af_rIParse : AF := afOf Try.prog Try.f38 []
theorem af_rIParse_ok : AllOk Try.prog 38 af_rIParse := .flat Try.func38 (by kernel_rfl) (by kernel_rfl) (by kernel_rfl) (by kernel_rfl) (by kernel_rfl)
noncomputable def af_Ibad : AF := afOf Try.prog Try.f81 []
theorem af_Ibad_ok : AllOk Try.prog 81 af_Ibad := .flat Try.func81 (by kernel_rfl) (by kernel_rfl) (by kernel_rfl) (by kernel_rfl) (by kernel_rfl)
noncomputable def af_Iknown : AF := afOf Try.prog Try.f78 []
theorem af_Iknown_ok : AllOk Try.prog 78 af_Iknown := .flat Try.func78 (by kernel_rfl) (by kernel_rfl) (by kernel_rfl) (by kernel_rfl) (by kernel_rfl)
noncomputable def af_Ioctet : AF := afOf Try.prog Try.f70 []
theorem af_Ioctet_ok : AllOk Try.prog 70 af_Ioctet := .flat Try.func70 (by kernel_rfl) (by kernel_rfl) (by kernel_rfl) (by kernel_rfl) (by kernel_rfl)
noncomputable def af_IReply2 : AF := afOf Try.prog Try.f23 []
theorem af_IReply2_ok : AllOk Try.prog 23 af_IReply2 := .flat Try.func23 (by kernel_rfl) (by kernel_rfl) (by kernel_rfl) (by kernel_rfl) (by kernel_rfl)
noncomputable def af_rIReply : AF := afOf Try.prog Try.f24 []
theorem af_rIReply_ok : AllOk Try.prog 24 af_rIReply := .flat Try.func24 (by kernel_rfl) (by kernel_rfl) (by kernel_rfl) (by kernel_rfl) (by kernel_rfl)
noncomputable def af_ISame : AF := afOf Try.prog Try.f27 []
theorem af_ISame_ok : AllOk Try.prog 27 af_ISame := .flat Try.func27 (by kernel_rfl) (by kernel_rfl) (by kernel_rfl) (by kernel_rfl) (by kernel_rfl)
noncomputable def af_Ifailed : AF := afOf Try.prog Try.f79 []
theorem af_Ifailed_ok : AllOk Try.prog 79 af_Ifailed := .flat Try.func79 (by kernel_rfl) (by kernel_rfl) (by kernel_rfl) (by kernel_rfl) (by kernel_rfl)
noncomputable def af_IAbout2 : AF := afOf Try.prog Try.f25 []
theorem af_IAbout2_ok : AllOk Try.prog 25 af_IAbout2 := .flat Try.func25 (by kernel_rfl) (by kernel_rfl) (by kernel_rfl) (by kernel_rfl) (by kernel_rfl)
noncomputable def af_rIAbout : AF := afOf Try.prog Try.f26 []
theorem af_rIAbout_ok : AllOk Try.prog 26 af_rIAbout := .flat Try.func26 (by kernel_rfl) (by kernel_rfl) (by kernel_rfl) (by kernel_rfl) (by kernel_rfl)
noncomputable def af_IIsErr : AF := afOf Try.prog Try.f28 []
theorem af_IIsErr_ok : AllOk Try.prog 28 af_IIsErr := .flat Try.func28 (by kernel_rfl) (by kernel_rfl) (by kernel_rfl) (by kernel_rfl) (by kernel_rfl)
noncomputable def GE8b : List (Nat × Con) := [(88, .val [.bytes, .int .i64] cU32), (89, .val [.bytes, .int .i64] cU32), (87, .val [.barr 16, .barr 16, .int .i64, .bytes] cFine), (68, .val [.barr 16, .barr 16, .int .i64, .bytes] cFine), (77, .val [.bytes] cClone), (120, .val [.bytes] cGet), (80, .val [.bytes] cGet)]
theorem GE8b_ok : GOk Try.prog GE8b := .cons (enters_of Try.func88 (by kernel_rfl) rfl) U32_con <| .cons (enters_of Try.func89 (by kernel_rfl) rfl) rU32_con <| .cons (enters_of Try.func87 (by kernel_rfl) rfl) Fine_con <| .cons (enters_of Try.func68 (by kernel_rfl) rfl) rFine_con <| .cons (enters_of Try.func77 (by kernel_rfl) rfl) Clone_con <| .cons (enters_of Try.func120 (by kernel_rfl) rfl) SixGet_con <| .cons (enters_of Try.func80 (by kernel_rfl) rfl) rSixGet_con <| .nil
noncomputable def IE8b : List (Nat × AF) := [(81, af_Ibad), (78, af_Iknown), (70, af_Ioctet), (79, af_Ifailed)]
theorem IE8b_ok : IOk Try.prog IE8b := .cons af_Ibad_ok <| .cons af_Iknown_ok <| .cons af_Ioctet_ok <| .cons af_Ifailed_ok <| .nil
noncomputable def CE8b : List (Nat × (List Nat × (S → Option S))) := []
theorem CE8b_ok : COk Try.prog CE8b := .nil
noncomputable def E8b : Env := ⟨Try.prog, GE8b, IE8b, CE8b⟩
theorem E8b_ok : EnvOk E8b := ⟨by kernel_rfl, GE8b_ok, IE8b_ok, CE8b_ok⟩
def ipE (s d b : List UInt8) : Int := if b.length < 8 then 3 else if both s d 58 b = 65535 then 0 else 6
def parL (e : Int) (l : List UInt8) : List UInt8 := if e = 0 then l else []
def ipV (s d b : List UInt8) : V := .tup [.agg [.int .i64 (parI (ipE s d b) (gt b 0)), .int .i64 (parI (ipE s d b) (gt b 1)), .int .u32 (parI (ipE s d b) (be32 b 4)), .bytes (parL (ipE s d b) (b.drop 8))], .int .i64 (ipE s d b)]
def cIParse : List V → Option (V × Bool)
  | [.barr 16 s, .barr 16 d, .bytes b] => some (ipV s d b, decide (b.length ≤ 1048576))
  | _ => none
def rpB (kd cd : Int) : Bool := decide (kd = 128 ∧ cd = 0)
def bI (c : Bool) (x : Int) : Int := if c then x else 0
def bL (c : Bool) (l : List UInt8) : List UInt8 := if c then l else []
def cIReply : List V → Option (V × Bool)
  | [.agg [.int .i64 kd, .int .i64 cd, .int .u32 wd, .bytes b]] => some (.tup [.agg [.int .i64 (bI (rpB kd cd) 129), .int .i64 0, .int .u32 (bI (rpB kd cd) wd), .bytes (bL (rpB kd cd) b)], .bool (rpB kd cd)], decide (b.length ≤ 1048576))
  | _ => none
def smB (kd cd wd : Int) (b : List UInt8) (kd' cd' wd' : Int) (b' : List UInt8) : Bool := decide (kd = kd' ∧ cd = cd' ∧ wd = wd' ∧ b = b')
def cISame : List V → Option (V × Bool)
  | [.agg [.int .i64 kd, .int .i64 cd, .int .u32 wd, .bytes b], .agg [.int .i64 ke, .int .i64 ce, .int .u32 we, .bytes be]] => some (.bool (smB kd cd wd b ke ce we be), true)
  | _ => none
def abB (k c : Int) (p : List UInt8) : Bool := decide ((1 ≤ k ∧ k ≤ 4) ∧ (0 ≤ c ∧ c ≤ 255) ∧ ¬ (geE p = 0 ∧ hNx p = 58 ∧ 40 < p.length ∧ gt p 40 < 128))
def cIAbout : List V → Option (V × Bool)
  | [.int .i64 k, .int .i64 c, .int .u32 wd, .bytes p] => some (.tup [.agg [.int .i64 (bI (abB k c p) k), .int .i64 (bI (abB k c p) c), .int .u32 (bI (abB k c p) wd), .bytes (bL (abB k c p) (p.take 1232))], .bool (abB k c p)], decide (p.length ≤ 1048576))
  | _ => none
theorem IParse_t (s d b : List UInt8) : callV E8b af_IParse [.barr 16 s, .barr 16 d, .bytes b] =
    bif decide ((↑b.length : Int) < (8 : Int)) then
        some
          (V.tup
            [V.agg [V.int IntKind.i64 (0 : Int), V.int IntKind.i64 (0 : Int), V.int IntKind.u32 (0 : Int), V.bytes []],
              V.int IntKind.i64 (3 : Int)])
      else
        bif andT true (decide (b.length ≤ (140737488355327 : Nat))) then
          bif !both s d (58 : Int) b == (65535 : Int) then
            some
              (V.tup
                [V.agg [V.int IntKind.i64 (0 : Int), V.int IntKind.i64 (0 : Int), V.int IntKind.u32 (0 : Int), V.bytes []],
                  V.int IntKind.i64 (6 : Int)])
          else
            bif
                andT (andT (andT (andT true (inB (0 : Int) b.length)) (inB (1 : Int) b.length)) (Am.inC (8 : Int) b.length))
                    (decide ((cutL b (8 : Nat) b.length).length ≤ (140737488355328 : Nat))) &&
                  true then
              some
                (V.tup
                  [V.agg
                      [V.int IntKind.i64 (IntKind.i64.wrap (gt b (0 : Nat))),
                        V.int IntKind.i64 (IntKind.i64.wrap (gt b (1 : Nat))), V.int IntKind.u32 (u32 b (4 : Int)).1,
                        V.bytes (cutL b (8 : Nat) b.length)],
                    V.int IntKind.i64 (0 : Int)])
            else none
        else none := by kernel_rfl

theorem rIParse_t (s d b : List UInt8) : callV E8b af_rIParse [.barr 16 s, .barr 16 d, .bytes b] =
    bif decide ((↑b.length : Int) < (8 : Int)) then
        some
          (V.tup
            [V.agg [V.int IntKind.i64 (0 : Int), V.int IntKind.i64 (0 : Int), V.int IntKind.u32 (0 : Int), V.bytes []],
              V.int IntKind.i64 (3 : Int)])
      else
        bif andT true (decide (b.length ≤ (140737488355327 : Nat))) then
          bif !both s d (58 : Int) b == (65535 : Int) then
            some
              (V.tup
                [V.agg [V.int IntKind.i64 (0 : Int), V.int IntKind.i64 (0 : Int), V.int IntKind.u32 (0 : Int), V.bytes []],
                  V.int IntKind.i64 (6 : Int)])
          else
            bif
                andT (andT (andT (andT true (inB (0 : Int) b.length)) (inB (1 : Int) b.length)) (Am.inC (8 : Int) b.length))
                    (((List.replicate (0 : Nat) (0 : UInt8) ++ cutL b (8 : Nat) b.length).length * (1 : Nat)).ble
                      (140737488355328 : Nat)) &&
                  true then
              some
                (V.tup
                  [V.agg
                      [V.int IntKind.i64 (IntKind.i64.wrap (gt b (0 : Nat))),
                        V.int IntKind.i64 (IntKind.i64.wrap (gt b (1 : Nat))), V.int IntKind.u32 (u32 b (4 : Int)).1,
                        V.bytes (List.replicate (0 : Nat) (0 : UInt8) ++ cutL b (8 : Nat) b.length)],
                    V.int IntKind.i64 (0 : Int)])
            else none
        else none := by kernel_rfl

theorem IReply_t (kd cd wd : Int) (b : List UInt8) : callV E8b af_IReply2 [.agg [.int .i64 kd, .int .i64 cd, .int .u32 wd, .bytes b]] =
    bif kd != (128 : Int) then
        some
          (V.tup
            [V.agg [V.int IntKind.i64 (0 : Int), V.int IntKind.i64 (0 : Int), V.int IntKind.u32 (0 : Int), V.bytes []],
              V.bool false])
      else
        bif cd != (0 : Int) then
          some
            (V.tup
              [V.agg [V.int IntKind.i64 (0 : Int), V.int IntKind.i64 (0 : Int), V.int IntKind.u32 (0 : Int), V.bytes []],
                V.bool false])
        else
          bif andT true (decide (b.length ≤ (140737488355328 : Nat))) && true then
            some
              (V.tup
                [V.agg [V.int IntKind.i64 (129 : Int), V.int IntKind.i64 (0 : Int), V.int IntKind.u32 wd, V.bytes b],
                  V.bool true])
          else none := by kernel_rfl

theorem rIReply_t (kd cd wd : Int) (b : List UInt8) : callV E8b af_rIReply [.agg [.int .i64 kd, .int .i64 cd, .int .u32 wd, .bytes b]] =
    bif kd == (128 : Int) then
        bif cd == (0 : Int) then
          some
            (V.tup
              [V.agg [V.int IntKind.i64 (129 : Int), V.int IntKind.i64 cd, V.int IntKind.u32 wd, V.bytes b], V.bool true])
        else
          some
            (V.tup
              [V.agg [V.int IntKind.i64 (0 : Int), V.int IntKind.i64 (0 : Int), V.int IntKind.u32 (0 : Int), V.bytes []],
                V.bool false])
      else
        some
          (V.tup
            [V.agg [V.int IntKind.i64 (0 : Int), V.int IntKind.i64 (0 : Int), V.int IntKind.u32 (0 : Int), V.bytes []],
              V.bool false]) := by kernel_rfl

theorem ISame_t (kd cd wd : Int) (b : List UInt8) (kd' cd' wd' : Int) (b' : List UInt8) : callV E8b af_ISame [.agg [.int .i64 kd, .int .i64 cd, .int .u32 wd, .bytes b], .agg [.int .i64 kd', .int .i64 cd', .int .u32 wd', .bytes b']] =
    bif kd == kd' then
        bif cd == cd' then bif wd == wd' then some (V.bool (b == b')) else some (V.bool false) else some (V.bool false)
      else some (V.bool false) := by kernel_rfl

theorem IAbout_t (k c wd : Int) (p : List UInt8) : callV E8b af_IAbout2 [.int .i64 k, .int .i64 c, .int .u32 wd, .bytes p] =
    bif k == (1 : Int) then
        bif decide (c ≥ (0 : Int)) then
          bif !decide (c ≤ (255 : Int)) then
            some
              (V.tup
                [V.agg [V.int IntKind.i64 (0 : Int), V.int IntKind.i64 (0 : Int), V.int IntKind.u32 (0 : Int), V.bytes []],
                  V.bool false])
          else
            bif geE p != (0 : Int) then
              bif
                  andT
                    (andT true
                      (Am.inC (if (1232 : Int) < (↑p.length : Int) then (1232 : Int) else (↑p.length : Int)) p.length))
                    (decide
                      ((cutL p (0 : Nat)
                            (if (1232 : Int) < (↑p.length : Int) then (1232 : Int) else (↑p.length : Int)).toNat).length ≤
                        (140737488355328 : Nat))) then
                some
                  (V.tup
                    [V.agg
                        [V.int IntKind.i64 k, V.int IntKind.i64 c, V.int IntKind.u32 wd,
                          V.bytes
                            (cutL p (0 : Nat)
                              (if (1232 : Int) < (↑p.length : Int) then (1232 : Int) else (↑p.length : Int)).toNat)],
                      V.bool true])
              else none
            else
              bif hNx p != (58 : Int) then
                bif
                    andT
                      (andT true
                        (Am.inC (if (1232 : Int) < (↑p.length : Int) then (1232 : Int) else (↑p.length : Int)) p.length))
                      (decide
                        ((cutL p (0 : Nat)
                              (if (1232 : Int) < (↑p.length : Int) then (1232 : Int) else (↑p.length : Int)).toNat).length ≤
                          (140737488355328 : Nat))) then
                  some
                    (V.tup
                      [V.agg
                          [V.int IntKind.i64 k, V.int IntKind.i64 c, V.int IntKind.u32 wd,
                            V.bytes
                              (cutL p (0 : Nat)
                                (if (1232 : Int) < (↑p.length : Int) then (1232 : Int) else (↑p.length : Int)).toNat)],
                        V.bool true])
                else none
              else
                bif decide ((↑p.length : Int) ≤ (40 : Int)) then
                  bif
                      andT
                        (andT true
                          (Am.inC (if (1232 : Int) < (↑p.length : Int) then (1232 : Int) else (↑p.length : Int)) p.length))
                        (decide
                          ((cutL p (0 : Nat)
                                (if (1232 : Int) < (↑p.length : Int) then (1232 : Int)
                                  else (↑p.length : Int)).toNat).length ≤
                            (140737488355328 : Nat))) then
                    some
                      (V.tup
                        [V.agg
                            [V.int IntKind.i64 k, V.int IntKind.i64 c, V.int IntKind.u32 wd,
                              V.bytes
                                (cutL p (0 : Nat)
                                  (if (1232 : Int) < (↑p.length : Int) then (1232 : Int) else (↑p.length : Int)).toNat)],
                          V.bool true])
                  else none
                else
                  bif andT true (inB (40 : Int) p.length) then
                    bif andT true (inB (40 : Int) p.length) then
                      bif decide (IntKind.i64.wrap (gt p (40 : Nat)) ≥ (0 : Int)) then
                        bif decide (IntKind.i64.wrap (gt p (40 : Nat)) < (128 : Int)) then
                          some
                            (V.tup
                              [V.agg
                                  [V.int IntKind.i64 (0 : Int), V.int IntKind.i64 (0 : Int), V.int IntKind.u32 (0 : Int),
                                    V.bytes []],
                                V.bool false])
                        else
                          bif
                              andT
                                (andT true
                                  (Am.inC (if (1232 : Int) < (↑p.length : Int) then (1232 : Int) else (↑p.length : Int))
                                    p.length))
                                (decide
                                  ((cutL p (0 : Nat)
                                        (if (1232 : Int) < (↑p.length : Int) then (1232 : Int)
                                          else (↑p.length : Int)).toNat).length ≤
                                    (140737488355328 : Nat))) then
                            some
                              (V.tup
                                [V.agg
                                    [V.int IntKind.i64 k, V.int IntKind.i64 c, V.int IntKind.u32 wd,
                                      V.bytes
                                        (cutL p (0 : Nat)
                                          (if (1232 : Int) < (↑p.length : Int) then (1232 : Int)
                                            else (↑p.length : Int)).toNat)],
                                  V.bool true])
                          else none
                      else
                        bif
                            andT
                              (andT true
                                (Am.inC (if (1232 : Int) < (↑p.length : Int) then (1232 : Int) else (↑p.length : Int))
                                  p.length))
                              (decide
                                ((cutL p (0 : Nat)
                                      (if (1232 : Int) < (↑p.length : Int) then (1232 : Int)
                                        else (↑p.length : Int)).toNat).length ≤
                                  (140737488355328 : Nat))) then
                          some
                            (V.tup
                              [V.agg
                                  [V.int IntKind.i64 k, V.int IntKind.i64 c, V.int IntKind.u32 wd,
                                    V.bytes
                                      (cutL p (0 : Nat)
                                        (if (1232 : Int) < (↑p.length : Int) then (1232 : Int)
                                          else (↑p.length : Int)).toNat)],
                                V.bool true])
                        else none
                    else none
                  else none
        else
          some
            (V.tup
              [V.agg [V.int IntKind.i64 (0 : Int), V.int IntKind.i64 (0 : Int), V.int IntKind.u32 (0 : Int), V.bytes []],
                V.bool false])
      else
        bif k == (2 : Int) then
          bif decide (c ≥ (0 : Int)) then
            bif !decide (c ≤ (255 : Int)) then
              some
                (V.tup
                  [V.agg
                      [V.int IntKind.i64 (0 : Int), V.int IntKind.i64 (0 : Int), V.int IntKind.u32 (0 : Int), V.bytes []],
                    V.bool false])
            else
              bif geE p != (0 : Int) then
                bif
                    andT
                      (andT true
                        (Am.inC (if (1232 : Int) < (↑p.length : Int) then (1232 : Int) else (↑p.length : Int)) p.length))
                      (decide
                        ((cutL p (0 : Nat)
                              (if (1232 : Int) < (↑p.length : Int) then (1232 : Int) else (↑p.length : Int)).toNat).length ≤
                          (140737488355328 : Nat))) then
                  some
                    (V.tup
                      [V.agg
                          [V.int IntKind.i64 k, V.int IntKind.i64 c, V.int IntKind.u32 wd,
                            V.bytes
                              (cutL p (0 : Nat)
                                (if (1232 : Int) < (↑p.length : Int) then (1232 : Int) else (↑p.length : Int)).toNat)],
                        V.bool true])
                else none
              else
                bif hNx p != (58 : Int) then
                  bif
                      andT
                        (andT true
                          (Am.inC (if (1232 : Int) < (↑p.length : Int) then (1232 : Int) else (↑p.length : Int)) p.length))
                        (decide
                          ((cutL p (0 : Nat)
                                (if (1232 : Int) < (↑p.length : Int) then (1232 : Int)
                                  else (↑p.length : Int)).toNat).length ≤
                            (140737488355328 : Nat))) then
                    some
                      (V.tup
                        [V.agg
                            [V.int IntKind.i64 k, V.int IntKind.i64 c, V.int IntKind.u32 wd,
                              V.bytes
                                (cutL p (0 : Nat)
                                  (if (1232 : Int) < (↑p.length : Int) then (1232 : Int) else (↑p.length : Int)).toNat)],
                          V.bool true])
                  else none
                else
                  bif decide ((↑p.length : Int) ≤ (40 : Int)) then
                    bif
                        andT
                          (andT true
                            (Am.inC (if (1232 : Int) < (↑p.length : Int) then (1232 : Int) else (↑p.length : Int))
                              p.length))
                          (decide
                            ((cutL p (0 : Nat)
                                  (if (1232 : Int) < (↑p.length : Int) then (1232 : Int)
                                    else (↑p.length : Int)).toNat).length ≤
                              (140737488355328 : Nat))) then
                      some
                        (V.tup
                          [V.agg
                              [V.int IntKind.i64 k, V.int IntKind.i64 c, V.int IntKind.u32 wd,
                                V.bytes
                                  (cutL p (0 : Nat)
                                    (if (1232 : Int) < (↑p.length : Int) then (1232 : Int) else (↑p.length : Int)).toNat)],
                            V.bool true])
                    else none
                  else
                    bif andT true (inB (40 : Int) p.length) then
                      bif andT true (inB (40 : Int) p.length) then
                        bif decide (IntKind.i64.wrap (gt p (40 : Nat)) ≥ (0 : Int)) then
                          bif decide (IntKind.i64.wrap (gt p (40 : Nat)) < (128 : Int)) then
                            some
                              (V.tup
                                [V.agg
                                    [V.int IntKind.i64 (0 : Int), V.int IntKind.i64 (0 : Int), V.int IntKind.u32 (0 : Int),
                                      V.bytes []],
                                  V.bool false])
                          else
                            bif
                                andT
                                  (andT true
                                    (Am.inC (if (1232 : Int) < (↑p.length : Int) then (1232 : Int) else (↑p.length : Int))
                                      p.length))
                                  (decide
                                    ((cutL p (0 : Nat)
                                          (if (1232 : Int) < (↑p.length : Int) then (1232 : Int)
                                            else (↑p.length : Int)).toNat).length ≤
                                      (140737488355328 : Nat))) then
                              some
                                (V.tup
                                  [V.agg
                                      [V.int IntKind.i64 k, V.int IntKind.i64 c, V.int IntKind.u32 wd,
                                        V.bytes
                                          (cutL p (0 : Nat)
                                            (if (1232 : Int) < (↑p.length : Int) then (1232 : Int)
                                              else (↑p.length : Int)).toNat)],
                                    V.bool true])
                            else none
                        else
                          bif
                              andT
                                (andT true
                                  (Am.inC (if (1232 : Int) < (↑p.length : Int) then (1232 : Int) else (↑p.length : Int))
                                    p.length))
                                (decide
                                  ((cutL p (0 : Nat)
                                        (if (1232 : Int) < (↑p.length : Int) then (1232 : Int)
                                          else (↑p.length : Int)).toNat).length ≤
                                    (140737488355328 : Nat))) then
                            some
                              (V.tup
                                [V.agg
                                    [V.int IntKind.i64 k, V.int IntKind.i64 c, V.int IntKind.u32 wd,
                                      V.bytes
                                        (cutL p (0 : Nat)
                                          (if (1232 : Int) < (↑p.length : Int) then (1232 : Int)
                                            else (↑p.length : Int)).toNat)],
                                  V.bool true])
                          else none
                      else none
                    else none
          else
            some
              (V.tup
                [V.agg [V.int IntKind.i64 (0 : Int), V.int IntKind.i64 (0 : Int), V.int IntKind.u32 (0 : Int), V.bytes []],
                  V.bool false])
        else
          bif k == (3 : Int) then
            bif decide (c ≥ (0 : Int)) then
              bif !decide (c ≤ (255 : Int)) then
                some
                  (V.tup
                    [V.agg
                        [V.int IntKind.i64 (0 : Int), V.int IntKind.i64 (0 : Int), V.int IntKind.u32 (0 : Int), V.bytes []],
                      V.bool false])
              else
                bif geE p != (0 : Int) then
                  bif
                      andT
                        (andT true
                          (Am.inC (if (1232 : Int) < (↑p.length : Int) then (1232 : Int) else (↑p.length : Int)) p.length))
                        (decide
                          ((cutL p (0 : Nat)
                                (if (1232 : Int) < (↑p.length : Int) then (1232 : Int)
                                  else (↑p.length : Int)).toNat).length ≤
                            (140737488355328 : Nat))) then
                    some
                      (V.tup
                        [V.agg
                            [V.int IntKind.i64 k, V.int IntKind.i64 c, V.int IntKind.u32 wd,
                              V.bytes
                                (cutL p (0 : Nat)
                                  (if (1232 : Int) < (↑p.length : Int) then (1232 : Int) else (↑p.length : Int)).toNat)],
                          V.bool true])
                  else none
                else
                  bif hNx p != (58 : Int) then
                    bif
                        andT
                          (andT true
                            (Am.inC (if (1232 : Int) < (↑p.length : Int) then (1232 : Int) else (↑p.length : Int))
                              p.length))
                          (decide
                            ((cutL p (0 : Nat)
                                  (if (1232 : Int) < (↑p.length : Int) then (1232 : Int)
                                    else (↑p.length : Int)).toNat).length ≤
                              (140737488355328 : Nat))) then
                      some
                        (V.tup
                          [V.agg
                              [V.int IntKind.i64 k, V.int IntKind.i64 c, V.int IntKind.u32 wd,
                                V.bytes
                                  (cutL p (0 : Nat)
                                    (if (1232 : Int) < (↑p.length : Int) then (1232 : Int) else (↑p.length : Int)).toNat)],
                            V.bool true])
                    else none
                  else
                    bif decide ((↑p.length : Int) ≤ (40 : Int)) then
                      bif
                          andT
                            (andT true
                              (Am.inC (if (1232 : Int) < (↑p.length : Int) then (1232 : Int) else (↑p.length : Int))
                                p.length))
                            (decide
                              ((cutL p (0 : Nat)
                                    (if (1232 : Int) < (↑p.length : Int) then (1232 : Int)
                                      else (↑p.length : Int)).toNat).length ≤
                                (140737488355328 : Nat))) then
                        some
                          (V.tup
                            [V.agg
                                [V.int IntKind.i64 k, V.int IntKind.i64 c, V.int IntKind.u32 wd,
                                  V.bytes
                                    (cutL p (0 : Nat)
                                      (if (1232 : Int) < (↑p.length : Int) then (1232 : Int)
                                        else (↑p.length : Int)).toNat)],
                              V.bool true])
                      else none
                    else
                      bif andT true (inB (40 : Int) p.length) then
                        bif andT true (inB (40 : Int) p.length) then
                          bif decide (IntKind.i64.wrap (gt p (40 : Nat)) ≥ (0 : Int)) then
                            bif decide (IntKind.i64.wrap (gt p (40 : Nat)) < (128 : Int)) then
                              some
                                (V.tup
                                  [V.agg
                                      [V.int IntKind.i64 (0 : Int), V.int IntKind.i64 (0 : Int),
                                        V.int IntKind.u32 (0 : Int), V.bytes []],
                                    V.bool false])
                            else
                              bif
                                  andT
                                    (andT true
                                      (Am.inC (if (1232 : Int) < (↑p.length : Int) then (1232 : Int) else (↑p.length : Int))
                                        p.length))
                                    (decide
                                      ((cutL p (0 : Nat)
                                            (if (1232 : Int) < (↑p.length : Int) then (1232 : Int)
                                              else (↑p.length : Int)).toNat).length ≤
                                        (140737488355328 : Nat))) then
                                some
                                  (V.tup
                                    [V.agg
                                        [V.int IntKind.i64 k, V.int IntKind.i64 c, V.int IntKind.u32 wd,
                                          V.bytes
                                            (cutL p (0 : Nat)
                                              (if (1232 : Int) < (↑p.length : Int) then (1232 : Int)
                                                else (↑p.length : Int)).toNat)],
                                      V.bool true])
                              else none
                          else
                            bif
                                andT
                                  (andT true
                                    (Am.inC (if (1232 : Int) < (↑p.length : Int) then (1232 : Int) else (↑p.length : Int))
                                      p.length))
                                  (decide
                                    ((cutL p (0 : Nat)
                                          (if (1232 : Int) < (↑p.length : Int) then (1232 : Int)
                                            else (↑p.length : Int)).toNat).length ≤
                                      (140737488355328 : Nat))) then
                              some
                                (V.tup
                                  [V.agg
                                      [V.int IntKind.i64 k, V.int IntKind.i64 c, V.int IntKind.u32 wd,
                                        V.bytes
                                          (cutL p (0 : Nat)
                                            (if (1232 : Int) < (↑p.length : Int) then (1232 : Int)
                                              else (↑p.length : Int)).toNat)],
                                    V.bool true])
                            else none
                        else none
                      else none
            else
              some
                (V.tup
                  [V.agg
                      [V.int IntKind.i64 (0 : Int), V.int IntKind.i64 (0 : Int), V.int IntKind.u32 (0 : Int), V.bytes []],
                    V.bool false])
          else
            bif k == (4 : Int) then
              bif decide (c ≥ (0 : Int)) then
                bif !decide (c ≤ (255 : Int)) then
                  some
                    (V.tup
                      [V.agg
                          [V.int IntKind.i64 (0 : Int), V.int IntKind.i64 (0 : Int), V.int IntKind.u32 (0 : Int),
                            V.bytes []],
                        V.bool false])
                else
                  bif geE p != (0 : Int) then
                    bif
                        andT
                          (andT true
                            (Am.inC (if (1232 : Int) < (↑p.length : Int) then (1232 : Int) else (↑p.length : Int))
                              p.length))
                          (decide
                            ((cutL p (0 : Nat)
                                  (if (1232 : Int) < (↑p.length : Int) then (1232 : Int)
                                    else (↑p.length : Int)).toNat).length ≤
                              (140737488355328 : Nat))) then
                      some
                        (V.tup
                          [V.agg
                              [V.int IntKind.i64 k, V.int IntKind.i64 c, V.int IntKind.u32 wd,
                                V.bytes
                                  (cutL p (0 : Nat)
                                    (if (1232 : Int) < (↑p.length : Int) then (1232 : Int) else (↑p.length : Int)).toNat)],
                            V.bool true])
                    else none
                  else
                    bif hNx p != (58 : Int) then
                      bif
                          andT
                            (andT true
                              (Am.inC (if (1232 : Int) < (↑p.length : Int) then (1232 : Int) else (↑p.length : Int))
                                p.length))
                            (decide
                              ((cutL p (0 : Nat)
                                    (if (1232 : Int) < (↑p.length : Int) then (1232 : Int)
                                      else (↑p.length : Int)).toNat).length ≤
                                (140737488355328 : Nat))) then
                        some
                          (V.tup
                            [V.agg
                                [V.int IntKind.i64 k, V.int IntKind.i64 c, V.int IntKind.u32 wd,
                                  V.bytes
                                    (cutL p (0 : Nat)
                                      (if (1232 : Int) < (↑p.length : Int) then (1232 : Int)
                                        else (↑p.length : Int)).toNat)],
                              V.bool true])
                      else none
                    else
                      bif decide ((↑p.length : Int) ≤ (40 : Int)) then
                        bif
                            andT
                              (andT true
                                (Am.inC (if (1232 : Int) < (↑p.length : Int) then (1232 : Int) else (↑p.length : Int))
                                  p.length))
                              (decide
                                ((cutL p (0 : Nat)
                                      (if (1232 : Int) < (↑p.length : Int) then (1232 : Int)
                                        else (↑p.length : Int)).toNat).length ≤
                                  (140737488355328 : Nat))) then
                          some
                            (V.tup
                              [V.agg
                                  [V.int IntKind.i64 k, V.int IntKind.i64 c, V.int IntKind.u32 wd,
                                    V.bytes
                                      (cutL p (0 : Nat)
                                        (if (1232 : Int) < (↑p.length : Int) then (1232 : Int)
                                          else (↑p.length : Int)).toNat)],
                                V.bool true])
                        else none
                      else
                        bif andT true (inB (40 : Int) p.length) then
                          bif andT true (inB (40 : Int) p.length) then
                            bif decide (IntKind.i64.wrap (gt p (40 : Nat)) ≥ (0 : Int)) then
                              bif decide (IntKind.i64.wrap (gt p (40 : Nat)) < (128 : Int)) then
                                some
                                  (V.tup
                                    [V.agg
                                        [V.int IntKind.i64 (0 : Int), V.int IntKind.i64 (0 : Int),
                                          V.int IntKind.u32 (0 : Int), V.bytes []],
                                      V.bool false])
                              else
                                bif
                                    andT
                                      (andT true
                                        (Am.inC
                                          (if (1232 : Int) < (↑p.length : Int) then (1232 : Int) else (↑p.length : Int))
                                          p.length))
                                      (decide
                                        ((cutL p (0 : Nat)
                                              (if (1232 : Int) < (↑p.length : Int) then (1232 : Int)
                                                else (↑p.length : Int)).toNat).length ≤
                                          (140737488355328 : Nat))) then
                                  some
                                    (V.tup
                                      [V.agg
                                          [V.int IntKind.i64 k, V.int IntKind.i64 c, V.int IntKind.u32 wd,
                                            V.bytes
                                              (cutL p (0 : Nat)
                                                (if (1232 : Int) < (↑p.length : Int) then (1232 : Int)
                                                  else (↑p.length : Int)).toNat)],
                                        V.bool true])
                                else none
                            else
                              bif
                                  andT
                                    (andT true
                                      (Am.inC (if (1232 : Int) < (↑p.length : Int) then (1232 : Int) else (↑p.length : Int))
                                        p.length))
                                    (decide
                                      ((cutL p (0 : Nat)
                                            (if (1232 : Int) < (↑p.length : Int) then (1232 : Int)
                                              else (↑p.length : Int)).toNat).length ≤
                                        (140737488355328 : Nat))) then
                                some
                                  (V.tup
                                    [V.agg
                                        [V.int IntKind.i64 k, V.int IntKind.i64 c, V.int IntKind.u32 wd,
                                          V.bytes
                                            (cutL p (0 : Nat)
                                              (if (1232 : Int) < (↑p.length : Int) then (1232 : Int)
                                                else (↑p.length : Int)).toNat)],
                                      V.bool true])
                              else none
                          else none
                        else none
              else
                some
                  (V.tup
                    [V.agg
                        [V.int IntKind.i64 (0 : Int), V.int IntKind.i64 (0 : Int), V.int IntKind.u32 (0 : Int), V.bytes []],
                      V.bool false])
            else
              some
                (V.tup
                  [V.agg
                      [V.int IntKind.i64 (0 : Int), V.int IntKind.i64 (0 : Int), V.int IntKind.u32 (0 : Int), V.bytes []],
                    V.bool false]) := by kernel_rfl

theorem rIAbout_t (k c wd : Int) (p : List UInt8) : callV E8b af_rIAbout [.int .i64 k, .int .i64 c, .int .u32 wd, .bytes p] =
    bif decide (k < (1 : Int)) then
        some
          (V.tup
            [V.agg [V.int IntKind.i64 (0 : Int), V.int IntKind.i64 (0 : Int), V.int IntKind.u32 (0 : Int), V.bytes []],
              V.bool false])
      else
        bif decide (k > (4 : Int)) then
          some
            (V.tup
              [V.agg [V.int IntKind.i64 (0 : Int), V.int IntKind.i64 (0 : Int), V.int IntKind.u32 (0 : Int), V.bytes []],
                V.bool false])
        else
          bif decide (c < (0 : Int)) then
            some
              (V.tup
                [V.agg [V.int IntKind.i64 (0 : Int), V.int IntKind.i64 (0 : Int), V.int IntKind.u32 (0 : Int), V.bytes []],
                  V.bool false])
          else
            bif decide (c > (255 : Int)) then
              some
                (V.tup
                  [V.agg
                      [V.int IntKind.i64 (0 : Int), V.int IntKind.i64 (0 : Int), V.int IntKind.u32 (0 : Int), V.bytes []],
                    V.bool false])
            else
              bif geE p == (0 : Int) then
                bif hNx p == (58 : Int) then
                  bif decide ((↑p.length : Int) > (40 : Int)) then
                    bif andT true (inB (40 : Int) p.length) then
                      bif decide (gt p (40 : Nat) < (128 : Int)) then
                        some
                          (V.tup
                            [V.agg
                                [V.int IntKind.i64 (0 : Int), V.int IntKind.i64 (0 : Int), V.int IntKind.u32 (0 : Int),
                                  V.bytes []],
                              V.bool false])
                      else
                        bif decide ((↑p.length : Int) > (1232 : Int)) then
                          bif andT true (Am.inC (1232 : Int) p.length) then
                            bif
                                andT true
                                  (((List.replicate (0 : Nat) (0 : UInt8) ++ cutL p (0 : Nat) (1232 : Nat)).length *
                                        (1 : Nat)).ble
                                    (140737488355328 : Nat)) then
                              some
                                (V.tup
                                  [V.agg
                                      [V.int IntKind.i64 k, V.int IntKind.i64 c, V.int IntKind.u32 wd,
                                        V.bytes (List.replicate (0 : Nat) (0 : UInt8) ++ cutL p (0 : Nat) (1232 : Nat))],
                                    V.bool true])
                            else none
                          else none
                        else
                          bif
                              andT true
                                (((List.replicate (0 : Nat) (0 : UInt8) ++ p).length * (1 : Nat)).ble
                                  (140737488355328 : Nat)) then
                            some
                              (V.tup
                                [V.agg
                                    [V.int IntKind.i64 k, V.int IntKind.i64 c, V.int IntKind.u32 wd,
                                      V.bytes (List.replicate (0 : Nat) (0 : UInt8) ++ p)],
                                  V.bool true])
                          else none
                    else none
                  else
                    bif decide ((↑p.length : Int) > (1232 : Int)) then
                      bif andT true (Am.inC (1232 : Int) p.length) then
                        bif
                            andT true
                              (((List.replicate (0 : Nat) (0 : UInt8) ++ cutL p (0 : Nat) (1232 : Nat)).length *
                                    (1 : Nat)).ble
                                (140737488355328 : Nat)) then
                          some
                            (V.tup
                              [V.agg
                                  [V.int IntKind.i64 k, V.int IntKind.i64 c, V.int IntKind.u32 wd,
                                    V.bytes (List.replicate (0 : Nat) (0 : UInt8) ++ cutL p (0 : Nat) (1232 : Nat))],
                                V.bool true])
                        else none
                      else none
                    else
                      bif
                          andT true
                            (((List.replicate (0 : Nat) (0 : UInt8) ++ p).length * (1 : Nat)).ble
                              (140737488355328 : Nat)) then
                        some
                          (V.tup
                            [V.agg
                                [V.int IntKind.i64 k, V.int IntKind.i64 c, V.int IntKind.u32 wd,
                                  V.bytes (List.replicate (0 : Nat) (0 : UInt8) ++ p)],
                              V.bool true])
                      else none
                else
                  bif decide ((↑p.length : Int) > (1232 : Int)) then
                    bif andT true (Am.inC (1232 : Int) p.length) then
                      bif
                          andT true
                            (((List.replicate (0 : Nat) (0 : UInt8) ++ cutL p (0 : Nat) (1232 : Nat)).length *
                                  (1 : Nat)).ble
                              (140737488355328 : Nat)) then
                        some
                          (V.tup
                            [V.agg
                                [V.int IntKind.i64 k, V.int IntKind.i64 c, V.int IntKind.u32 wd,
                                  V.bytes (List.replicate (0 : Nat) (0 : UInt8) ++ cutL p (0 : Nat) (1232 : Nat))],
                              V.bool true])
                      else none
                    else none
                  else
                    bif
                        andT true
                          (((List.replicate (0 : Nat) (0 : UInt8) ++ p).length * (1 : Nat)).ble
                            (140737488355328 : Nat)) then
                      some
                        (V.tup
                          [V.agg
                              [V.int IntKind.i64 k, V.int IntKind.i64 c, V.int IntKind.u32 wd,
                                V.bytes (List.replicate (0 : Nat) (0 : UInt8) ++ p)],
                            V.bool true])
                    else none
              else
                bif decide ((↑p.length : Int) > (1232 : Int)) then
                  bif andT true (Am.inC (1232 : Int) p.length) then
                    bif
                        andT true
                          (((List.replicate (0 : Nat) (0 : UInt8) ++ cutL p (0 : Nat) (1232 : Nat)).length * (1 : Nat)).ble
                            (140737488355328 : Nat)) then
                      some
                        (V.tup
                          [V.agg
                              [V.int IntKind.i64 k, V.int IntKind.i64 c, V.int IntKind.u32 wd,
                                V.bytes (List.replicate (0 : Nat) (0 : UInt8) ++ cutL p (0 : Nat) (1232 : Nat))],
                            V.bool true])
                    else none
                  else none
                else
                  bif
                      andT true
                        (((List.replicate (0 : Nat) (0 : UInt8) ++ p).length * (1 : Nat)).ble (140737488355328 : Nat)) then
                    some
                      (V.tup
                        [V.agg
                            [V.int IntKind.i64 k, V.int IntKind.i64 c, V.int IntKind.u32 wd,
                              V.bytes (List.replicate (0 : Nat) (0 : UInt8) ++ p)],
                          V.bool true])
                  else none := by kernel_rfl

theorem IIsErr_t (kd cd wd : Int) (b : List UInt8) : callV E8b af_IIsErr [.agg [.int .i64 kd, .int .i64 cd, .int .u32 wd, .bytes b]] =
    bif decide (kd ≥ (0 : Int)) then some (V.bool (decide (kd < (128 : Int)))) else some (V.bool false) := by kernel_rfl

theorem IParse_v (s d b : List UInt8) (hb : b.length ≤ 1048576) : callV E8b af_IParse [.barr 16 s, .barr 16 d, .bytes b] = some (ipV s d b) := by
  rw [IParse_t]
  unfold ipV
  have g0 := gt_lo b 0; have g0' := gt_hi b 0
  have g1 := gt_lo b 1; have g1' := gt_hi b 1
  by_cases h : b.length < 8
  · have he : ipE s d b = 3 := if_pos h
    rw [he]
    simp (disch := omega) only [dec_t, dec_f, inB_t, inC_t, andT_t, cond_true, cond_false, Bool.and_true, Bool.true_and, w64, wu32, wu8, nble_t, nblt_t, Bool.not_true, Bool.not_false, Bool.not_not]
    rfl
  · have hu : (u32 b 4).1 = be32 b 4 := by unfold u32; rw [if_pos (by omega)]; rfl
    have hl : (cutL b 8 b.length).length ≤ 140737488355328 := by rw [length_cutL]; omega
    rw [hu]
    by_cases h2 : both s d 58 b = 65535
    · have he : ipE s d b = 0 := by unfold ipE; rw [if_neg h, if_pos h2]
      rw [he, ieq_t h2]
      simp (disch := omega) only [dec_t, dec_f, inB_t, inC_t, andT_t, cond_true, cond_false, Bool.and_true, Bool.true_and, w64, wu32, wu8, nble_t, nblt_t, Bool.not_true, Bool.not_false, Bool.not_not]
      rw [cutL_all]
      rfl
    · have he : ipE s d b = 6 := by unfold ipE; rw [if_neg h, if_neg h2]
      rw [he, ieq_f h2]
      simp (disch := omega) only [dec_t, dec_f, inB_t, inC_t, andT_t, cond_true, cond_false, Bool.and_true, Bool.true_and, w64, wu32, wu8, nble_t, nblt_t, Bool.not_true, Bool.not_false, Bool.not_not]
      rfl
theorem rIParse_v (s d b : List UInt8) (hb : b.length ≤ 1048576) : callV E8b af_rIParse [.barr 16 s, .barr 16 d, .bytes b] = some (ipV s d b) := by
  rw [rIParse_t]
  unfold ipV
  have g0 := gt_lo b 0; have g0' := gt_hi b 0
  have g1 := gt_lo b 1; have g1' := gt_hi b 1
  by_cases h : b.length < 8
  · have he : ipE s d b = 3 := if_pos h
    rw [he]
    simp (disch := omega) only [dec_t, dec_f, inB_t, inC_t, andT_t, cond_true, cond_false, Bool.and_true, Bool.true_and, w64, wu32, wu8, nble_t, nblt_t, Bool.not_true, Bool.not_false, Bool.not_not]
    rfl
  · have hu : (u32 b 4).1 = be32 b 4 := by unfold u32; rw [if_pos (by omega)]; rfl
    rw [List.replicate_zero, List.nil_append, cutL_all]
    have hl : (b.drop 8).length * 1 ≤ 140737488355328 := by rw [List.length_drop]; omega
    rw [hu]
    by_cases h2 : both s d 58 b = 65535
    · have he : ipE s d b = 0 := by unfold ipE; rw [if_neg h, if_pos h2]
      rw [he, ieq_t h2, nble_t hl]
      simp (disch := omega) only [dec_t, dec_f, inB_t, inC_t, andT_t, cond_true, cond_false, Bool.and_true, Bool.true_and, w64, wu32, wu8, nble_t, nblt_t, Bool.not_true, Bool.not_false, Bool.not_not]
      rfl
    · have he : ipE s d b = 6 := by unfold ipE; rw [if_neg h, if_neg h2]
      rw [he, ieq_f h2]
      simp (disch := omega) only [dec_t, dec_f, inB_t, inC_t, andT_t, cond_true, cond_false, Bool.and_true, Bool.true_and, w64, wu32, wu8, nble_t, nblt_t, Bool.not_true, Bool.not_false, Bool.not_not]
      rfl
theorem IReply_v (kd cd wd : Int) (b : List UInt8) (hb : b.length ≤ 1048576) : callV E8b af_IReply2 [.agg [.int .i64 kd, .int .i64 cd, .int .u32 wd, .bytes b]] = some (.tup [.agg [.int .i64 (bI (rpB kd cd) 129), .int .i64 0, .int .u32 (bI (rpB kd cd) wd), .bytes (bL (rpB kd cd) b)], .bool (rpB kd cd)]) := by
  rw [IReply_t]
  have hl : b.length ≤ 140737488355328 := by omega
  by_cases h : kd = 128 ∧ cd = 0
  · have he : rpB kd cd = true := decide_eq_true h
    rw [he, ine_f h.1, ine_f h.2, dec_t hl]
    rfl
  · have he : rpB kd cd = false := decide_eq_false h
    rw [he]
    by_cases h1 : kd = 128
    · rw [ine_f h1, ine_t (by omega)]; rfl
    · rw [ine_t h1]; rfl
theorem rIReply_v (kd cd wd : Int) (b : List UInt8) (hb : b.length ≤ 1048576) : callV E8b af_rIReply [.agg [.int .i64 kd, .int .i64 cd, .int .u32 wd, .bytes b]] = some (.tup [.agg [.int .i64 (bI (rpB kd cd) 129), .int .i64 0, .int .u32 (bI (rpB kd cd) wd), .bytes (bL (rpB kd cd) b)], .bool (rpB kd cd)]) := by
  rw [rIReply_t]
  by_cases h : kd = 128 ∧ cd = 0
  · have he : rpB kd cd = true := decide_eq_true h
    obtain ⟨rfl, rfl⟩ := h
    rw [he]
    rfl
  · have he : rpB kd cd = false := decide_eq_false h
    rw [he]
    by_cases h1 : kd = 128
    · rw [ieq_t h1, ieq_f (show cd ≠ 0 by omega)]; rfl
    · rw [ieq_f h1]; rfl
theorem ISame_v (kd cd wd : Int) (b : List UInt8) (kd' cd' wd' : Int) (b' : List UInt8) : callV E8b af_ISame [.agg [.int .i64 kd, .int .i64 cd, .int .u32 wd, .bytes b], .agg [.int .i64 kd', .int .i64 cd', .int .u32 wd', .bytes b']] = some (.bool (smB kd cd wd b kd' cd' wd' b')) := by
  rw [ISame_t]
  unfold smB
  have hq : (b == b') = decide (b = b') := by
    by_cases h : b = b'
    · rw [decide_eq_true h, beq_iff_eq.2 h]
    · rw [decide_eq_false h, beq_eq_false_iff_ne.2 h]
  rw [hq]
  by_cases h1 : kd = kd'
  · rw [ieq_t h1]
    by_cases h2 : cd = cd'
    · rw [ieq_t h2]
      by_cases h3 : wd = wd'
      · rw [ieq_t h3]
        simp [h1, h2, h3]
      · rw [ieq_f h3]; simp [h3]
    · rw [ieq_f h2]; simp [h2]
  · rw [ieq_f h1]; simp [h1]
theorem IAbout_v (k c wd : Int) (p : List UInt8) (hp : p.length ≤ 1048576) : callV E8b af_IAbout2 [.int .i64 k, .int .i64 c, .int .u32 wd, .bytes p] = some (.tup [.agg [.int .i64 (bI (abB k c p) k), .int .i64 (bI (abB k c p) c), .int .u32 (bI (abB k c p) wd), .bytes (bL (abB k c p) (p.take 1232))], .bool (abB k c p)]) := by
  rw [IAbout_t]
  have g := gt_lo p 40; have g' := gt_hi p 40
  have hm : (if (1232 : Int) < ↑p.length then (1232 : Int) else ↑p.length).toNat = min 1232 p.length := by split <;> omega
  have hm0 : 0 ≤ (if (1232 : Int) < ↑p.length then (1232 : Int) else ↑p.length) := by split <;> omega
  have hm1 : (if (1232 : Int) < ↑p.length then (1232 : Int) else ↑p.length) ≤ ↑p.length := by split <;> omega
  rw [hm, cutL_zero, inC_t hm0 hm1, w64 (by omega) (by omega)]
  have ht : p.take (min 1232 p.length) = p.take 1232 := by rw [← List.take_take, List.take_length]
  have hl : (p.take 1232).length ≤ 140737488355328 := by rw [List.length_take]; omega
  rw [ht, dec_t hl]
  clear hm hm0 hm1 hl ht
  cases hb : abB k c p with
  | true =>
    have hb' := of_decide_eq_true hb
    try simp only [andT_t, andT_f, cond_true, cond_false, Bool.and_true, Bool.true_and, beq_self_eq_true]
    repeat' (refine bcase (fun hbc => ?_) (fun hbc => ?_))
    all_goals try simp only [decide_eq_true_eq, beq_iff_eq, bne_iff_ne, ne_eq, Bool.and_eq_true, andT_and, inB_iff, inC_iff, nble_iff, nblt_iff, decide_eq_false_iff_not, Bool.not_eq_true', Bool.not_eq_false', beq_eq_false_iff_ne, bne_eq_false_iff_eq, Bool.true_and, Bool.and_true, inB_iff_f, inC_iff_f, nble_iff_f, Bool.or_eq_true, Bool.not_eq_true, Decidable.not_not] at *
    all_goals first | rfl | (exfalso; omega)
  | false =>
    have hb' := of_decide_eq_false hb
    try simp only [andT_t, andT_f, cond_true, cond_false, Bool.and_true, Bool.true_and, beq_self_eq_true]
    repeat' (refine bcase (fun hbc => ?_) (fun hbc => ?_))
    all_goals try simp only [decide_eq_true_eq, beq_iff_eq, bne_iff_ne, ne_eq, Bool.and_eq_true, andT_and, inB_iff, inC_iff, nble_iff, nblt_iff, decide_eq_false_iff_not, Bool.not_eq_true', Bool.not_eq_false', beq_eq_false_iff_ne, bne_eq_false_iff_eq, Bool.true_and, Bool.and_true, inB_iff_f, inC_iff_f, nble_iff_f, Bool.or_eq_true, Bool.not_eq_true, Decidable.not_not] at *
    all_goals first | rfl | (exfalso; omega)
theorem rIAbout_v (k c wd : Int) (p : List UInt8) (hp : p.length ≤ 1048576) : callV E8b af_rIAbout [.int .i64 k, .int .i64 c, .int .u32 wd, .bytes p] = some (.tup [.agg [.int .i64 (bI (abB k c p) k), .int .i64 (bI (abB k c p) c), .int .u32 (bI (abB k c p) wd), .bytes (bL (abB k c p) (p.take 1232))], .bool (abB k c p)]) := by
  rw [rIAbout_t]
  have g := gt_lo p 40; have g' := gt_hi p 40
  have hm : p.take 1232 = if p.length > 1232 then p.take 1232 else p := by
    split
    · rfl
    · exact List.take_of_length_le (by omega)
  simp only [List.replicate_zero, List.nil_append, cutL_zero, List.length_take, Nat.mul_one]
  rw [hm]
  cases hb : abB k c p with
  | true =>
    have hb' := of_decide_eq_true hb
    try simp only [andT_t, andT_f, cond_true, cond_false, Bool.and_true, Bool.true_and, beq_self_eq_true]
    repeat' (refine bcase (fun hbc => ?_) (fun hbc => ?_))
    all_goals try simp only [decide_eq_true_eq, beq_iff_eq, bne_iff_ne, ne_eq, Bool.and_eq_true, andT_and, inB_iff, inC_iff, nble_iff, nblt_iff, decide_eq_false_iff_not, Bool.not_eq_true', Bool.not_eq_false', beq_eq_false_iff_ne, bne_eq_false_iff_eq, Bool.true_and, Bool.and_true, inB_iff_f, inC_iff_f, nble_iff_f, Bool.or_eq_true, Bool.not_eq_true, Decidable.not_not] at *
    all_goals first | (exfalso; omega) | (rw [if_pos (by omega)]; rfl) | (rw [if_neg (by omega)]; rfl)
  | false =>
    have hb' := of_decide_eq_false hb
    try simp only [andT_t, andT_f, cond_true, cond_false, Bool.and_true, Bool.true_and, beq_self_eq_true]
    repeat' (refine bcase (fun hbc => ?_) (fun hbc => ?_))
    all_goals try simp only [decide_eq_true_eq, beq_iff_eq, bne_iff_ne, ne_eq, Bool.and_eq_true, andT_and, inB_iff, inC_iff, nble_iff, nblt_iff, decide_eq_false_iff_not, Bool.not_eq_true', Bool.not_eq_false', beq_eq_false_iff_ne, bne_eq_false_iff_eq, Bool.true_and, Bool.and_true, inB_iff_f, inC_iff_f, nble_iff_f, Bool.or_eq_true, Bool.not_eq_true, Decidable.not_not] at *
    all_goals first | rfl | (exfalso; omega)
def ieB (kd : Int) : Bool := decide (0 ≤ kd ∧ kd ≤ 127)
def cIIsErr : List V → Option (V × Bool)
  | [.agg [.int .i64 kd, .int .i64 cd, .int .u32 wd, .bytes b]] => some (.bool (ieB kd), true)
  | _ => none
theorem IIsErr_v (kd cd wd : Int) (b : List UInt8) : callV E8b af_IIsErr [.agg [.int .i64 kd, .int .i64 cd, .int .u32 wd, .bytes b]] = some (.bool (ieB kd)) := by
  rw [IIsErr_t]
  by_cases h : 0 ≤ kd ∧ kd ≤ 127
  · rw [show ieB kd = true from decide_eq_true h, dec_t (by omega), dec_t (by omega)]; rfl
  · rw [show ieB kd = false from decide_eq_false h]
    by_cases h1 : 0 ≤ kd
    · rw [dec_t (by omega), dec_f (by omega)]; rfl
    · rw [dec_f (by omega)]; rfl
theorem IIsErr_con : ∀ vs v, cIIsErr vs = some (v, true) → SpecV Try.prog 28 vs v := by
  intro vs v h; unfold cIIsErr at h; split at h
  · rename_i kd cd wd b
    injection h with h; injection h with h hb; subst h
    exact callV_ok E8b_ok af_IIsErr_ok (IIsErr_v kd cd wd b)
  · cases h
theorem IParse_con : ∀ vs v, cIParse vs = some (v, true) → SpecV Try.prog 37 vs v := by
  intro vs v h; unfold cIParse at h; split at h
  · rename_i s d b
    injection h with h; injection h with h hb; subst h
    exact callV_ok E8b_ok af_IParse_ok (IParse_v s d b (of_decide_eq_true hb))
  · cases h
theorem rIParse_con : ∀ vs v, cIParse vs = some (v, true) → SpecV Try.prog 38 vs v := by
  intro vs v h; unfold cIParse at h; split at h
  · rename_i s d b
    injection h with h; injection h with h hb; subst h
    exact callV_ok E8b_ok af_rIParse_ok (rIParse_v s d b (of_decide_eq_true hb))
  · cases h
theorem IReply2_con : ∀ vs v, cIReply vs = some (v, true) → SpecV Try.prog 23 vs v := by
  intro vs v h; unfold cIReply at h; split at h
  · rename_i kd cd wd b
    injection h with h; injection h with h hb; subst h
    exact callV_ok E8b_ok af_IReply2_ok (IReply_v kd cd wd b (of_decide_eq_true hb))
  · cases h
theorem rIReply_con : ∀ vs v, cIReply vs = some (v, true) → SpecV Try.prog 24 vs v := by
  intro vs v h; unfold cIReply at h; split at h
  · rename_i kd cd wd b
    injection h with h; injection h with h hb; subst h
    exact callV_ok E8b_ok af_rIReply_ok (rIReply_v kd cd wd b (of_decide_eq_true hb))
  · cases h
theorem ISame_con : ∀ vs v, cISame vs = some (v, true) → SpecV Try.prog 27 vs v := by
  intro vs v h; unfold cISame at h; split at h
  · rename_i kd cd wd b ke ce we be
    injection h with h; injection h with h hb; subst h
    exact callV_ok E8b_ok af_ISame_ok (ISame_v kd cd wd b ke ce we be)
  · cases h
theorem IAbout2_con : ∀ vs v, cIAbout vs = some (v, true) → SpecV Try.prog 25 vs v := by
  intro vs v h; unfold cIAbout at h; split at h
  · rename_i k c wd p
    injection h with h; injection h with h hb; subst h
    exact callV_ok E8b_ok af_IAbout2_ok (IAbout_v k c wd p (of_decide_eq_true hb))
  · cases h
theorem rIAbout_con : ∀ vs v, cIAbout vs = some (v, true) → SpecV Try.prog 26 vs v := by
  intro vs v h; unfold cIAbout at h; split at h
  · rename_i k c wd p
    injection h with h; injection h with h hb; subst h
    exact callV_ok E8b_ok af_rIAbout_ok (rIAbout_v k c wd p (of_decide_eq_true hb))
  · cases h
end Go.Proofs.Ythbllfhaaidhjaa

namespace Go.Proofs.Ythbllfhaaidhjaa
open Go Go.Am Go.RowKit Go.Mix Go.Bas
set_option maxRecDepth 100000
noncomputable def af_IcmpMakes : AF := afOf Try.prog Try.f4 []
theorem af_IcmpMakes_ok : AllOk Try.prog 4 af_IcmpMakes := .flat Try.func4 (by kernel_rfl) (by kernel_rfl) (by kernel_rfl) (by kernel_rfl) (by kernel_rfl)
noncomputable def af_IcmpParses : AF := afOf Try.prog Try.f8 []
theorem af_IcmpParses_ok : AllOk Try.prog 8 af_IcmpParses := .flat Try.func8 (by kernel_rfl) (by kernel_rfl) (by kernel_rfl) (by kernel_rfl) (by kernel_rfl)
noncomputable def af_IcmpBack : AF := afOf Try.prog Try.f9 []
theorem af_IcmpBack_ok : AllOk Try.prog 9 af_IcmpBack := .flat Try.func9 (by kernel_rfl) (by kernel_rfl) (by kernel_rfl) (by kernel_rfl) (by kernel_rfl)
noncomputable def GE8c : List (Nat × Con) := [(20, .val [] cTrue), (21, .val [.barr 16, .barr 16, .agg [.int .i64, .int .i64, .int .u32, .bytes]] cPut), (22, .val [.barr 16, .barr 16, .agg [.int .i64, .int .i64, .int .u32, .bytes]] cPut), (37, .val [.barr 16, .barr 16, .bytes] cIParse), (38, .val [.barr 16, .barr 16, .bytes] cIParse), (23, .val [.agg [.int .i64, .int .i64, .int .u32, .bytes]] cIReply), (24, .val [.agg [.int .i64, .int .i64, .int .u32, .bytes]] cIReply), (27, .val [.agg [.int .i64, .int .i64, .int .u32, .bytes], .agg [.int .i64, .int .i64, .int .u32, .bytes]] cISame), (25, .val [.int .i64, .int .i64, .int .u32, .bytes] cIAbout), (26, .val [.int .i64, .int .i64, .int .u32, .bytes] cIAbout), (28, .val [.agg [.int .i64, .int .i64, .int .u32, .bytes]] cIIsErr)]
theorem GE8c_ok : GOk Try.prog GE8c := .cons (enters_of Try.func20 (by kernel_rfl) rfl) lives8_con <| .cons (enters_of Try.func21 (by kernel_rfl) rfl) IPut_con <| .cons (enters_of Try.func22 (by kernel_rfl) rfl) rIPut_con <| .cons (enters_of Try.func37 (by kernel_rfl) rfl) IParse_con <| .cons (enters_of Try.func38 (by kernel_rfl) rfl) rIParse_con <| .cons (enters_of Try.func23 (by kernel_rfl) rfl) IReply2_con <| .cons (enters_of Try.func24 (by kernel_rfl) rfl) rIReply_con <| .cons (enters_of Try.func27 (by kernel_rfl) rfl) ISame_con <| .cons (enters_of Try.func25 (by kernel_rfl) rfl) IAbout2_con <| .cons (enters_of Try.func26 (by kernel_rfl) rfl) rIAbout_con <| .cons (enters_of Try.func28 (by kernel_rfl) rfl) IIsErr_con <| .nil
noncomputable def IE8c : List (Nat × AF) := []
theorem IE8c_ok : IOk Try.prog IE8c := .nil
noncomputable def CE8c : List (Nat × (List Nat × (S → Option S))) := []
theorem CE8c_ok : COk Try.prog CE8c := .nil
noncomputable def E8c : Env := ⟨Try.prog, GE8c, IE8c, CE8c⟩
theorem E8c_ok : EnvOk E8c := ⟨by kernel_rfl, GE8c_ok, IE8c_ok, CE8c_ok⟩
def sh_IcmpMakes : List Sh := [.agg [.int .i64, .int .i64, .int .u32, .bytes], .arr 2 (.int .i64), .bytes]
def sh_IcmpParses : List Sh := [.agg [.barr 16, .barr 16], .bytes]
def sh_IcmpBack : List Sh := [.agg [.barr 16, .barr 16], .agg [.int .i64, .int .i64, .int .u32, .bytes]]
theorem IcmpMakes_t (kd cd wd : Int) (b : List UInt8) (k c : Int) (p : List UInt8) : callV E8c af_IcmpMakes [.agg [.int .i64 kd, .int .i64 cd, .int .u32 wd, .bytes b], .arr (.int .i64) 2 [.int .i64 k, .int .i64 c], .bytes p] =
    bif decide ((↑p.length : Int) > (3000 : Int)) then some (V.bool true)
      else
        bif decide ((↑b.length : Int) > (3000 : Int)) then some (V.bool true)
        else
          bif andT true (decide (b.length ≤ (1048576 : Nat))) then
            bif andT true (decide (b.length ≤ (1048576 : Nat))) then
              bif andT true (decide (p.length ≤ (1048576 : Nat))) then
                bif andT true (decide (p.length ≤ (1048576 : Nat))) then
                  bif
                      smB (bI (rpB kd cd) (129 : Int)) (0 : Int) (bI (rpB kd cd) wd) (bL (rpB kd cd) b)
                        (bI (rpB kd cd) (129 : Int)) (0 : Int) (bI (rpB kd cd) wd) (bL (rpB kd cd) b) then
                    bif rpB kd cd == rpB kd cd then
                      bif
                          smB
                            (bI
                              (abB (toI ([V.int IntKind.i64 k, V.int IntKind.i64 c].getD (0 : Nat) V.undef))
                                (toI ([V.int IntKind.i64 k, V.int IntKind.i64 c].getD (1 : Nat) V.undef)) p)
                              (toI ([V.int IntKind.i64 k, V.int IntKind.i64 c].getD (0 : Nat) V.undef)))
                            (bI
                              (abB (toI ([V.int IntKind.i64 k, V.int IntKind.i64 c].getD (0 : Nat) V.undef))
                                (toI ([V.int IntKind.i64 k, V.int IntKind.i64 c].getD (1 : Nat) V.undef)) p)
                              (toI ([V.int IntKind.i64 k, V.int IntKind.i64 c].getD (1 : Nat) V.undef)))
                            (bI
                              (abB (toI ([V.int IntKind.i64 k, V.int IntKind.i64 c].getD (0 : Nat) V.undef))
                                (toI ([V.int IntKind.i64 k, V.int IntKind.i64 c].getD (1 : Nat) V.undef)) p)
                              wd)
                            (bL
                              (abB (toI ([V.int IntKind.i64 k, V.int IntKind.i64 c].getD (0 : Nat) V.undef))
                                (toI ([V.int IntKind.i64 k, V.int IntKind.i64 c].getD (1 : Nat) V.undef)) p)
                              (List.take (1232 : Nat) p))
                            (bI
                              (abB (toI ([V.int IntKind.i64 k, V.int IntKind.i64 c].getD (0 : Nat) V.undef))
                                (toI ([V.int IntKind.i64 k, V.int IntKind.i64 c].getD (1 : Nat) V.undef)) p)
                              (toI ([V.int IntKind.i64 k, V.int IntKind.i64 c].getD (0 : Nat) V.undef)))
                            (bI
                              (abB (toI ([V.int IntKind.i64 k, V.int IntKind.i64 c].getD (0 : Nat) V.undef))
                                (toI ([V.int IntKind.i64 k, V.int IntKind.i64 c].getD (1 : Nat) V.undef)) p)
                              (toI ([V.int IntKind.i64 k, V.int IntKind.i64 c].getD (1 : Nat) V.undef)))
                            (bI
                              (abB (toI ([V.int IntKind.i64 k, V.int IntKind.i64 c].getD (0 : Nat) V.undef))
                                (toI ([V.int IntKind.i64 k, V.int IntKind.i64 c].getD (1 : Nat) V.undef)) p)
                              wd)
                            (bL
                              (abB (toI ([V.int IntKind.i64 k, V.int IntKind.i64 c].getD (0 : Nat) V.undef))
                                (toI ([V.int IntKind.i64 k, V.int IntKind.i64 c].getD (1 : Nat) V.undef)) p)
                              (List.take (1232 : Nat) p)) then
                        bif
                            abB (toI ([V.int IntKind.i64 k, V.int IntKind.i64 c].getD (0 : Nat) V.undef))
                                (toI ([V.int IntKind.i64 k, V.int IntKind.i64 c].getD (1 : Nat) V.undef)) p ==
                              abB (toI ([V.int IntKind.i64 k, V.int IntKind.i64 c].getD (0 : Nat) V.undef))
                                (toI ([V.int IntKind.i64 k, V.int IntKind.i64 c].getD (1 : Nat) V.undef)) p then
                          bif decide (kd ≥ (0 : Int)) then
                            bif ieB kd == decide (kd ≤ (127 : Int)) then some (V.bool true) else some (V.bool false)
                          else bif ieB kd == false then some (V.bool true) else some (V.bool false)
                        else some (V.bool false)
                      else some (V.bool false)
                    else some (V.bool false)
                  else some (V.bool false)
                else none
              else none
            else none
          else none := by kernel_rfl

theorem IcmpParses_t (s : List UInt8) (d : List UInt8) (b : List UInt8) : callV E8c af_IcmpParses [.agg [.barr 16 s, .barr 16 d], .bytes b] =
    bif decide ((↑b.length : Int) > (3000 : Int)) then some (V.bool true)
      else
        bif andT true (decide (b.length ≤ (1048576 : Nat))) then
          bif andT true (decide (b.length ≤ (1048576 : Nat))) then
            bif
                smB (parI (ipE s d b) (gt b (0 : Nat))) (parI (ipE s d b) (gt b (1 : Nat)))
                  (parI (ipE s d b)
                    (((gt b (4 : Nat) * (256 : Int) + gt b (5 : Nat)) * (256 : Int) + gt b (6 : Nat)) * (256 : Int) +
                      gt b (7 : Nat)))
                  (parL (ipE s d b) (List.drop (8 : Nat) b)) (parI (ipE s d b) (gt b (0 : Nat)))
                  (parI (ipE s d b) (gt b (1 : Nat)))
                  (parI (ipE s d b)
                    (((gt b (4 : Nat) * (256 : Int) + gt b (5 : Nat)) * (256 : Int) + gt b (6 : Nat)) * (256 : Int) +
                      gt b (7 : Nat)))
                  (parL (ipE s d b) (List.drop (8 : Nat) b)) then
              bif ipE s d b == ipE s d b then some (V.bool true) else some (V.bool false)
            else some (V.bool false)
          else none
        else none := by kernel_rfl

theorem IcmpBack_t (s : List UInt8) (d : List UInt8) (kd : Int) (cd : Int) (wd : Int) (b : List UInt8) : callV E8c af_IcmpBack [.agg [.barr 16 s, .barr 16 d], .agg [.int .i64 kd, .int .i64 cd, .int .u32 wd, .bytes b]] =
    bif decide ((↑b.length : Int) > (3000 : Int)) then some (V.bool true)
      else
        bif decide (kd < (0 : Int)) then some (V.bool true)
        else
          bif decide (kd > (255 : Int)) then some (V.bool true)
          else
            bif decide (cd < (0 : Int)) then some (V.bool true)
            else
              bif decide (cd > (255 : Int)) then some (V.bool true)
              else
                bif
                    andT
                        (andT true (decide (b.length ≤ (140737488351232 : Nat) ∧ (0 : Int) ≤ wd ∧ wd < (4294967296 : Int))))
                        (decide ((putM s d kd cd wd b).length ≤ (1048576 : Nat))) &&
                      true then
                  bif
                      smB (parI (ipE s d (putM s d kd cd wd b)) (gt (putM s d kd cd wd b) (0 : Nat)))
                        (parI (ipE s d (putM s d kd cd wd b)) (gt (putM s d kd cd wd b) (1 : Nat)))
                        (parI (ipE s d (putM s d kd cd wd b))
                          (((gt (putM s d kd cd wd b) (4 : Nat) * (256 : Int) + gt (putM s d kd cd wd b) (5 : Nat)) *
                                  (256 : Int) +
                                gt (putM s d kd cd wd b) (6 : Nat)) *
                              (256 : Int) +
                            gt (putM s d kd cd wd b) (7 : Nat)))
                        (parL (ipE s d (putM s d kd cd wd b)) (List.drop (8 : Nat) (putM s d kd cd wd b))) kd cd wd b then
                    bif ipE s d (putM s d kd cd wd b) == (0 : Int) then some (V.bool true) else some (V.bool false)
                  else some (V.bool false)
                else none := by kernel_rfl

theorem smB_refl (k c w : Int) (b : List UInt8) : smB k c w b k c w b = true := decide_eq_true ⟨rfl, rfl, rfl, rfl⟩
theorem IcmpParses_v : ∀ xs, inRs 140737488351232 sh_IcmpParses xs = true → callV E8c af_IcmpParses xs = some (.bool true) := by
  intro xs h
  obtain ⟨zx1, zl1, rfl, zh1, zr1⟩ := inRs_cons h; clear h
  obtain ⟨zg1, rfl, za1⟩ := inR_agg zh1; clear zh1
  obtain ⟨zx2, zl2, rfl, zh2, zr2⟩ := inRs_cons za1; clear za1
  obtain ⟨s, rfl, hs⟩ := inR_barr zh2; clear zh2
  obtain ⟨zx3, zl3, rfl, zh3, zr3⟩ := inRs_cons zr2; clear zr2
  obtain ⟨d, rfl, hd⟩ := inR_barr zh3; clear zh3
  obtain rfl := inRs_nil zr3; clear zr3
  obtain ⟨zx4, zl4, rfl, zh4, zr4⟩ := inRs_cons zr1; clear zr1
  obtain ⟨b, rfl, hb⟩ := inR_bytes zh4; clear zh4
  obtain rfl := inRs_nil zr4; clear zr4
  rw [IcmpParses_t]
  by_cases h0 : b.length ≤ 3000
  · simp (disch := omega) only [dec_t, dec_f, cond_false, andT_t, cond_true, smB_refl, ieq_t]
  · simp (disch := omega) only [dec_t, cond_true]
theorem IcmpMakes_v : ∀ xs, inRs 140737488351232 sh_IcmpMakes xs = true → callV E8c af_IcmpMakes xs = some (.bool true) := by
  intro xs h
  obtain ⟨zx1, zl1, rfl, zh1, zr1⟩ := inRs_cons h; clear h
  obtain ⟨zg1, rfl, za1⟩ := inR_agg zh1; clear zh1
  obtain ⟨zx2, zl2, rfl, zh2, zr2⟩ := inRs_cons za1; clear za1
  obtain ⟨kd, rfl, hkd0, hkd1⟩ := inR_i64 zh2; clear zh2
  obtain ⟨zx3, zl3, rfl, zh3, zr3⟩ := inRs_cons zr2; clear zr2
  obtain ⟨cd, rfl, hcd0, hcd1⟩ := inR_i64 zh3; clear zh3
  obtain ⟨zx4, zl4, rfl, zh4, zr4⟩ := inRs_cons zr3; clear zr3
  obtain ⟨wd, rfl, hwd0, hwd1⟩ := inR_u32 zh4; clear zh4
  obtain ⟨zx5, zl5, rfl, zh5, zr5⟩ := inRs_cons zr4; clear zr4
  obtain ⟨b, rfl, hb⟩ := inR_bytes zh5; clear zh5
  obtain rfl := inRs_nil zr5; clear zr5
  obtain ⟨zx6, zl6, rfl, zh6, zr6⟩ := inRs_cons zr1; clear zr1
  obtain ⟨n, rfl, hn, qn⟩ := inR_arr zh6; clear zh6
  obtain ⟨zx7, zl7, rfl, zh7, zr7⟩ := inRs_cons zr6; clear zr6
  obtain ⟨p, rfl, hp⟩ := inR_bytes zh7; clear zh7
  obtain rfl := inRs_nil zr7; clear zr7
  obtain ⟨y0, y1, rfl⟩ := list2 hn
  obtain ⟨k, rfl, hk0, hk1⟩ := inR_i64 (qn y0 (by simp))
  obtain ⟨c, rfl, hc0, hc1⟩ := inR_i64 (qn y1 (by simp))
  rw [IcmpMakes_t]
  simp only [smB_refl, beq_self_eq_true, cond_true]
  by_cases h1 : 0 ≤ kd
  · have hq : (ieB kd == decide (kd ≤ 127)) = true := by
      unfold ieB
      by_cases h2 : kd ≤ 127
      · rw [dec_t (show 0 ≤ kd ∧ kd ≤ 127 from ⟨h1, h2⟩), dec_t h2]; rfl
      · rw [dec_f (show ¬ (0 ≤ kd ∧ kd ≤ 127) by omega), dec_f h2]; rfl
    rw [hq]
    try simp only [andT_t, andT_f, cond_true, cond_false, Bool.and_true, Bool.true_and, beq_self_eq_true]
    repeat' (refine bcase (fun hbc => ?_) (fun hbc => ?_))
    all_goals try simp only [decide_eq_true_eq, beq_iff_eq, bne_iff_ne, ne_eq, Bool.and_eq_true, andT_and, inB_iff, inC_iff, nble_iff, nblt_iff, decide_eq_false_iff_not, Bool.not_eq_true', Bool.not_eq_false', beq_eq_false_iff_ne, bne_eq_false_iff_eq, Bool.true_and, Bool.and_true, inB_iff_f, inC_iff_f, nble_iff_f, Bool.or_eq_true, Bool.not_eq_true, Decidable.not_not] at *
    all_goals first | rfl | (exfalso; omega)
  · have hq : ieB kd = false := dec_f (by omega)
    rw [hq]
    try simp only [andT_t, andT_f, cond_true, cond_false, Bool.and_true, Bool.true_and, beq_self_eq_true]
    repeat' (refine bcase (fun hbc => ?_) (fun hbc => ?_))
    all_goals try simp only [decide_eq_true_eq, beq_iff_eq, bne_iff_ne, ne_eq, Bool.and_eq_true, andT_and, inB_iff, inC_iff, nble_iff, nblt_iff, decide_eq_false_iff_not, Bool.not_eq_true', Bool.not_eq_false', beq_eq_false_iff_ne, bne_eq_false_iff_eq, Bool.true_and, Bool.and_true, inB_iff_f, inC_iff_f, nble_iff_f, Bool.or_eq_true, Bool.not_eq_true, Decidable.not_not] at *
    all_goals first | rfl | (exfalso; omega)
theorem gt_append_left {a l : List UInt8} {i : Nat} (h : i < a.length) : gt (a ++ l) i = gt a i := by
  unfold gt; rw [List.getD_eq_getElem?_getD, List.getElem?_append_left h, ← List.getD_eq_getElem?_getD]
theorem gt_append_right {a l : List UInt8} {i : Nat} : gt (a ++ l) (a.length + i) = gt l i := by
  unfold gt; rw [List.getD_eq_getElem?_getD, List.getElem?_append_right (by omega), Nat.add_sub_cancel_left, ← List.getD_eq_getElem?_getD]
theorem gt_b8 (n : Int) : ((b8 n).toNat : Int) = n % 256 := b8_toNat n
theorem putM_cons (s d : List UInt8) (kd cd wd : Int) (b : List UInt8) (h1 : 0 ≤ kd ∧ kd ≤ 255) (h2 : 0 ≤ cd ∧ cd ≤ 255) : ∃ x y, putM s d kd cd wd b = b8 kd :: b8 cd :: x :: y :: b8 (wd / 16777216) :: b8 (wd / 65536) :: b8 (wd / 256) :: b8 wd :: b := by
  unfold putM
  rw [if_pos ⟨octB_iff.2 h1, octB_iff.2 h2⟩]
  exact ⟨_, _, rfl⟩
theorem IcmpBack_v : ∀ xs, inRs 140737488351232 sh_IcmpBack xs = true → callV E8c af_IcmpBack xs = some (.bool true) := by
  intro xs h
  obtain ⟨zx1, zl1, rfl, zh1, zr1⟩ := inRs_cons h; clear h
  obtain ⟨zg1, rfl, za1⟩ := inR_agg zh1; clear zh1
  obtain ⟨zx2, zl2, rfl, zh2, zr2⟩ := inRs_cons za1; clear za1
  obtain ⟨s, rfl, hs⟩ := inR_barr zh2; clear zh2
  obtain ⟨zx3, zl3, rfl, zh3, zr3⟩ := inRs_cons zr2; clear zr2
  obtain ⟨d, rfl, hd⟩ := inR_barr zh3; clear zh3
  obtain rfl := inRs_nil zr3; clear zr3
  obtain ⟨zx4, zl4, rfl, zh4, zr4⟩ := inRs_cons zr1; clear zr1
  obtain ⟨zg4, rfl, za4⟩ := inR_agg zh4; clear zh4
  obtain ⟨zx5, zl5, rfl, zh5, zr5⟩ := inRs_cons za4; clear za4
  obtain ⟨kd, rfl, hkd0, hkd1⟩ := inR_i64 zh5; clear zh5
  obtain ⟨zx6, zl6, rfl, zh6, zr6⟩ := inRs_cons zr5; clear zr5
  obtain ⟨cd, rfl, hcd0, hcd1⟩ := inR_i64 zh6; clear zh6
  obtain ⟨zx7, zl7, rfl, zh7, zr7⟩ := inRs_cons zr6; clear zr6
  obtain ⟨wd, rfl, hwd0, hwd1⟩ := inR_u32 zh7; clear zh7
  obtain ⟨zx8, zl8, rfl, zh8, zr8⟩ := inRs_cons zr7; clear zr7
  obtain ⟨b, rfl, hb⟩ := inR_bytes zh8; clear zh8
  obtain rfl := inRs_nil zr8; clear zr8
  obtain rfl := inRs_nil zr4; clear zr4
  rw [IcmpBack_t]
  by_cases h0 : b.length ≤ 3000 ∧ (0 ≤ kd ∧ kd ≤ 255) ∧ (0 ≤ cd ∧ cd ≤ 255)
  · obtain ⟨h0, h1, h2⟩ := h0
    have hfine : both s d 58 (putM s d kd cd wd b) = 65535 := by
      unfold putM
      rw [if_pos ⟨octB_iff.2 h1, octB_iff.2 h2⟩]
      exact fine_law s d 58 (msg0 kd cd wd b) 2 (by simp [msg0, four]) rfl rfl rfl
    obtain ⟨x, y, hp⟩ := putM_cons s d kd cd wd b h1 h2
    have hE : ipE s d (putM s d kd cd wd b) = 0 := by
      unfold ipE
      rw [if_neg (by rw [hp]; simp), if_pos hfine]
    rw [hE, hp]
    have e0 : gt (b8 kd :: b8 cd :: x :: y :: b8 (wd / 16777216) :: b8 (wd / 65536) :: b8 (wd / 256) :: b8 wd :: b) 0 = kd := (gt_b8 kd).trans (by omega)
    have e1 : gt (b8 kd :: b8 cd :: x :: y :: b8 (wd / 16777216) :: b8 (wd / 65536) :: b8 (wd / 256) :: b8 wd :: b) 1 = cd := (gt_b8 cd).trans (by omega)
    have e4 : gt (b8 kd :: b8 cd :: x :: y :: b8 (wd / 16777216) :: b8 (wd / 65536) :: b8 (wd / 256) :: b8 wd :: b) 4 = _ := gt_b8 (wd / 16777216)
    have e5 : gt (b8 kd :: b8 cd :: x :: y :: b8 (wd / 16777216) :: b8 (wd / 65536) :: b8 (wd / 256) :: b8 wd :: b) 5 = _ := gt_b8 (wd / 65536)
    have e6 : gt (b8 kd :: b8 cd :: x :: y :: b8 (wd / 16777216) :: b8 (wd / 65536) :: b8 (wd / 256) :: b8 wd :: b) 6 = _ := gt_b8 (wd / 256)
    have e7 : gt (b8 kd :: b8 cd :: x :: y :: b8 (wd / 16777216) :: b8 (wd / 65536) :: b8 (wd / 256) :: b8 wd :: b) 7 = _ := gt_b8 wd
    rw [e0, e1, e4, e5, e6, e7]
    have ew : ((wd / 16777216 % 256 * 256 + wd / 65536 % 256) * 256 + wd / 256 % 256) * 256 + wd % 256 = wd := by omega
    rw [ew]
    have hd : List.drop 8 (b8 kd :: b8 cd :: x :: y :: b8 (wd / 16777216) :: b8 (wd / 65536) :: b8 (wd / 256) :: b8 wd :: b) = b := rfl
    rw [hd]
    have hl : (b8 kd :: b8 cd :: x :: y :: b8 (wd / 16777216) :: b8 (wd / 65536) :: b8 (wd / 256) :: b8 wd :: b).length ≤ 1048576 := by simp; omega
    have hsm : smB (parI 0 kd) (parI 0 cd) (parI 0 wd) (parL 0 b) kd cd wd b = true := smB_refl kd cd wd b
    rw [hsm, dec_t hl]
    simp (disch := omega) only [dec_t, dec_f, inB_t, inC_t, andT_t, cond_true, cond_false, Bool.and_true, Bool.true_and, w64, wu32, wu8, nble_t, nblt_t, Bool.not_true, Bool.not_false, Bool.not_not]
    rfl
  · have hcase : b.length > 3000 ∨ kd < 0 ∨ kd > 255 ∨ cd < 0 ∨ cd > 255 := by omega
    clear h0
    try simp only [andT_t, andT_f, cond_true, cond_false, Bool.and_true, Bool.true_and, beq_self_eq_true]
    repeat' (refine bcase (fun hbc => ?_) (fun hbc => ?_))
    all_goals try simp only [decide_eq_true_eq, beq_iff_eq, bne_iff_ne, ne_eq, Bool.and_eq_true, andT_and, inB_iff, inC_iff, nble_iff, nblt_iff, decide_eq_false_iff_not, Bool.not_eq_true', Bool.not_eq_false', beq_eq_false_iff_ne, bne_eq_false_iff_eq, Bool.true_and, Bool.and_true, inB_iff_f, inC_iff_f, nble_iff_f, Bool.or_eq_true, Bool.not_eq_true, Decidable.not_not] at *
    all_goals first | rfl | (exfalso; omega)
end Go.Proofs.Ythbllfhaaidhjaa
