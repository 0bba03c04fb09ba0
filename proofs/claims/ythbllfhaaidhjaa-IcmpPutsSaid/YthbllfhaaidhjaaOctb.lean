/- The walks of package octets and of its reference, second part: numbers laid, bytes cut and joined. -/
import Derived.Test.YthbllfhaaidhjaaOct
namespace Go.Proofs.Ythbllfhaaidhjaa
open Go.RowKit Go.Mix Go.Bas

def b8 (n : Int) : UInt8 := UInt8.ofNat (n % 256).toNat
theorem b8_toNat (n : Int) : ((b8 n).toNat : Int) = n % 256 := by
  unfold b8
  rw [UInt8.toNat_ofNat']
  omega
theorem bv_b8 (n : Int) : bv (b8 n) = .int .u8 (n % 256) := by unfold bv; rw [b8_toNat]
theorem b8_congr {a b : Int} (h : a % 256 = b % 256) : b8 a = b8 b := by unfold b8; rw [h]
def two (n : Int) : List UInt8 := [b8 (n / 256), b8 n]
def four (n : Int) : List UInt8 := [b8 (n / 16777216), b8 (n / 65536), b8 (n / 256), b8 n]

theorem Try.infob : (Try.prog.info? 5).map (fun i => (i.zero, i.size, i.bytes)) = some (some (.int .u8 0), 1, 1) := by kernel_rfl

set_option maxRecDepth 8000 in
set_option maxHeartbeats 400000 in
theorem two_calls (n : Int) (w : World) :
    Calls Try.prog 116 #[.int .i64 n] w fun e w' => e = .returned (.agg #[.int .u8 (n / 256 % 256), .int .u8 (n % 256)]) ∧ Below w.heap.size w w' := by
  go_enter Try.func116, Try.ntmps116
  go_wp2
  exact bodyPost_ret (v := .agg #[.int .u8 (n / 256 % 256), .int .u8 (n % 256)]) (by simp [results, Try.results116, go_sem]) rfl ⟨rfl, (Below.refl _ _).alloc (Nat.le_refl _) _⟩

theorem two_cells (n : Int) : (#[Value.int .u8 (n / 256 % 256), .int .u8 (n % 256)] : Array Value).toList = (two n).map bv := by
  simp [two, bv_b8]

set_option maxRecDepth 8000 in
set_option maxHeartbeats 400000 in
theorem Put16_calls (base : Nat) (A : Option Addr) (k c : Nat) (l : List UInt8) (n : Int) (w : World) (h : Own w base 5 A k c l) (hb : base ≤ w.heap.size) (hsz : k + 2 ≤ 140737488355328) :
    Calls Try.prog 95 #[.slice A k c, .int .i64 n] w fun e w' => ∃ A' n' c', e = .returned (.slice A' n' c') ∧ Own w' base 5 A' n' c' (l ++ two n) ∧ w.grownBy w' (Value.slice A k c).ownBlock := by
  obtain ⟨i0, hi, hz0, hz1, hz2⟩ := info_parts Try.infob
  go_enter Try.func95, Try.ntmps95
  go_wp2_with fail
  refine (two_calls _ _).mono ?_; rintro e w' ⟨rfl, hb'⟩
  have hsz' := hb'.size
  go_wp2_with (at_builtin; refine stop ?_)
  refine Stop.on (wpList_app rfl _ _ 27 rfl 5 i0 Try.underlying27 hi hz0 hz1 hz2 base l (two n) rfl rfl (((h.step hb').alloc _).alloc _) (Own.made_at (base := 0) _ _ (two n) _ (by simp) rfl (two_cells n) (by simp [two]) (by simp)).bs hsz (by simp; omega) ?_)
  intro A' n' c' w2 ho hg
  go_wp2
  go_ret
  exact ⟨A', n', c', rfl, ho, ((grown_of_below hb' _).trans ((World.grownBy_alloc _ _ _).trans (World.grownBy_alloc _ _ _))).trans hg⟩

set_option maxRecDepth 8000 in
set_option maxHeartbeats 400000 in
theorem Put32_calls (base : Nat) (A : Option Addr) (k c : Nat) (l : List UInt8) (n : Int) (w : World) (h : Own w base 5 A k c l) (hb : base ≤ w.heap.size) (hsz : k + 4 ≤ 140737488355328) (h0 : 0 ≤ n) (h1 : n < 4294967296) :
    Calls Try.prog 71 #[.slice A k c, .int .u32 n] w fun e w' => ∃ A' n' c', e = .returned (.slice A' n' c') ∧ Own w' base 5 A' n' c' (l ++ four n) ∧ w.grownBy w' (Value.slice A k c).ownBlock := by
  obtain ⟨i0, hi, hz0, hz1, hz2⟩ := info_parts Try.infob
  have H0 := hid h0
  have H1 := hid h1
  clear h0 h1
  go_enter Try.func71, Try.ntmps71
  go_wp2_with (at_builtin; refine stop ?_)
  refine Stop.on (wpList_app rfl _ _ 27 rfl 5 i0 Try.underlying27 hi hz0 hz1 hz2 base l (four n) rfl rfl (h.alloc _) (Own.made_at (base := 0) _ _ (four n) _ (by simp) rfl (by simp [four, bv_b8]) (by simp [four]) (by simp)).bs hsz (by simp; omega) ?_)
  intro A' n' c' w2 ho hg
  go_wp2
  go_ret
  exact ⟨A', n', c', rfl, ho, (World.grownBy_alloc _ _ _).trans hg⟩

set_option maxRecDepth 8000 in
set_option maxHeartbeats 400000 in
theorem Two_calls (n : Int) (w : World) :
    Calls Try.prog 75 #[.int .i64 n] w fun e w' => ∃ A' n' c', e = .returned (.slice A' n' c') ∧ Own w' w.heap.size 5 A' n' c' (two n) ∧ Below w.heap.size w w' := by
  have hand := and_65535 n
  have h0 : 0 ≤ n % 65536 := by omega
  have h1 : n % 65536 < 65536 := by omega
  go_enter Try.func75, Try.ntmps75
  go_wp2
  go_ret
  refine ⟨_, _, _, rfl, Own.made_at w _ (two n) _ rfl rfl ?_ (by simp [two]) (Nat.le_refl _), (Below.refl _ _).alloc (Nat.le_refl _) _⟩
  simp [two, bv_b8]
  omega

theorem four_eq (n : Int) : two (n / 65536) ++ two (n % 65536) = four n := by
  unfold two four
  rw [show b8 (n / 65536 / 256) = b8 (n / 16777216) from b8_congr (by omega), show b8 (n % 65536 / 256) = b8 (n / 256) from b8_congr (by omega), show b8 (n % 65536) = b8 n from b8_congr (by omega)]
  rfl

set_option maxRecDepth 8000 in
set_option maxHeartbeats 400000 in
theorem Four_calls (n : Int) (w : World) (h0 : 0 ≤ n) (h1 : n < 4294967296) :
    Calls Try.prog 74 #[.int .u32 n] w fun e w' => ∃ A' n' c', e = .returned (.slice A' n' c') ∧ Own w' w.heap.size 5 A' n' c' (four n) ∧ Below w.heap.size w w' := by
  obtain ⟨i0, hi, hz0, hz1, hz2⟩ := info_parts Try.infob
  go_enter Try.func74, Try.ntmps74
  go_wp2_with fail
  refine (Two_calls _ _).mono ?_; rintro e w1 ⟨A1, n1, c1, rfl, ho1, hb1⟩
  go_wp2_with fail
  refine (Two_calls _ _).mono ?_; rintro e w2 ⟨A2, n2, c2, rfl, ho2, hb2⟩
  have e1 := ho1.len
  have e2 := ho2.len
  have l1 : n1 ≤ 2 := by rw [e1]; simp [two]
  have l2 : n2 ≤ 2 := by rw [e2]; simp [two]
  clear e1 e2
  have s1 := hb1.size
  have s2 := hb2.size
  go_wp2_with (at_builtin; refine stop ?_)
  refine Stop.on (wpList_app rfl _ _ 27 rfl 5 i0 Try.underlying27 hi hz0 hz1 hz2 w.heap.size _ _ rfl rfl (ho1.step hb2) ho2.bs (by omega) (by omega) ?_)
  intro A' n' c' w3 ho hg
  go_wp2
  go_ret
  rw [four_eq] at ho
  exact ⟨A', n', c', rfl, ho, (below_next hb1 hb2).trans (below_grown hg (ho1.step hb2) (Nat.le_refl _) (by omega))⟩

def set16 (l : List UInt8) (i n : Int) : List UInt8 × Bool := if 0 ≤ i ∧ i + 2 ≤ l.length then (l.take i.toNat ++ (two n ++ l.drop (i.toNat + 2)), true) else ([], false)
def cutb (l : List UInt8) (i n : Int) : List UInt8 × Bool := if isB l.length i n then ((l.drop i.toNat).take n.toNat, true) else ([], false)
def zeros (l : List UInt8) : Bool := l.all (· == 0)

theorem two_len (n : Int) : (two n).length = 2 := rfl

set_option maxRecDepth 8000 in
set_option maxHeartbeats 400000 in
theorem Set16_calls (A : Option Addr) (k c : Nat) (l : List UInt8) (i n : Int) (w : World) (h : Bs w A k c l) (hsz : k ≤ 140737488355328) :
    Calls Try.prog 72 #[.slice A k c, .int .i64 i, .int .i64 n] w fun e w' => ∃ A' n' c', e = .returned (.tuple #[.slice A' n' c', .bool (set16 l i n).2]) ∧ Own w' w.heap.size 5 A' n' c' (set16 l i n).1 ∧ Below w.heap.size w w' := by
  obtain ⟨i0, hi, hz0, hz1, hz2⟩ := info_parts Try.infob
  have hsz1 : (Try.prog.info? 5).map (·.size) = some 1 := by kernel_rfl
  have hc1 := h.cap
  have hc2 := h.most
  have hle : k ≤ l.length := Nat.le_of_eq h.len
  have hge : l.length ≤ k := Nat.le_of_eq h.len.symm
  by_cases hin : 0 ≤ i ∧ i + 2 ≤ l.length
  · have h3 := hin.2
    obtain ⟨i, rfl⟩ := Int.eq_ofNat_of_zero_le hin.1
    have hu : set16 l (i : Int) n = (l.take i ++ (two n ++ l.drop (i + 2)), true) := by unfold set16; rw [if_pos hin]; rfl
    rw [hu]
    have hB : isB k (i : Int) 2 = true := by unfold isB; simp; omega
    clear hu hin
    have HS := hid hsz1
    clear hsz1
    go_enter Try.func72, Try.ntmps72
    go_wp2_with fail
    refine (is_calls _ _ _ _ _ (by omega) _).mono ?_; rintro e w' ⟨rfl, rfl⟩
    go_wp2_with (at_make; refine stop ?_)
    refine Stop.on (wpList_mk rfl _ _ 27 rfl 5 i0 Try.underlying27 hi hz0 hz1 hz2 w.heap.size k rfl rfl (by omega) (Nat.le_refl _) ?_)
    intro w1 ho1 hb1
    have hs1 := hb1.size
    have e0 : (List.replicate k (0 : UInt8)).take 0 ++ (l ++ (List.replicate k (0 : UInt8)).drop (0 + k)) = l := by simp
    have E0 := hid e0
    clear e0
    go_wp2_with (with_reducible refine wpList_cp rfl (.tmp 17) (.tmp 18) 27 27 rfl 5 Try.underlying27 HS.out w.heap.size w.heap.size 0 _ l rfl rfl ho1 (h.step hb1) (by omega) (Nat.le_refl _) (fun _ => ⟨rfl, rfl⟩) (fun w2 ho2 hg2 => ?_); refine stop ?_)
    rw [E0.out] at ho2
    have hb2 : Below w.heap.size w w2 := hb1.trans (below_grown hg2 ho1 (Nat.le_refl _) hs1)
    have hs2 := hb2.size
    have hs3 := hg2.size
    have HB2 := hid hb2
    refine Stop.on ?_
    go_wp2_with fail
    refine (two_calls _ _).mono ?_; rintro e w3 ⟨rfl, hb3⟩
    have hs4 := hb3.size
    go_wp2_with fail
    have ho4 := (ho2.step hb3).alloc (Obj.cells #[Value.int .u8 (n / 256 % 256), Value.int .u8 (n % 256)] 136)
    have hbs := (Own.made_at (base := 0) (m := 2) w3 136 (two n) #[Value.int .u8 (n / 256 % 256), Value.int .u8 (n % 256)] rfl rfl (two_cells n) (by simp [two]) (by omega)).bs
    have hb4 := ((HB2.out.trans (hb3.mono hs2)).alloc (Nat.le_trans hs2 hs4) (Obj.cells #[Value.int .u8 (n / 256 % 256), Value.int .u8 (n % 256)] 136))
    clear hg2 hb2 hb3
    generalize hw4 : w3.alloc (Obj.cells #[Value.int .u8 (n / 256 % 256), Value.int .u8 (n % 256)] 136) = w4 at *
    clear hw4
    have hne : Nonempty (Cls (fun _ => True)) := Cls.ne (w := w4) trivial
    refine wp_region_segs (fun w1 => ∃ u : Cls (fun _ => True), w1 = u.w) ((0, 0) :: (1, 0) :: (2, 0) :: (3, 0) :: (4, 0) :: (5, 0) :: (6, 0) :: (7, 0) :: (8, 1) :: []) (by kernel_rfl) (by kernel_rfl) (by kernel_rfl) (by kernel_rfl) (inC trivial) ?_
    refine seg_held _ rfl ?_; go_big_quiet_step (fail); refine wpQuiet_nil ?_ -- 0 move
    refine seg_held _ rfl ?_; go_big_quiet_step (fail); refine wpQuiet_nil ?_ -- 1 move
    refine seg_held _ rfl ?_; go_big_quiet_step (fail); refine wpQuiet_nil ?_ -- 2 move
    refine seg_held _ rfl ?_; go_big_quiet_step (fail); refine wpQuiet_nil ?_ -- 3 binOp
    refine seg_held _ rfl ?_; go_big_quiet_step (fail); refine wpQuiet_nil ?_ -- 4 move
    refine seg_held _ rfl ?_; go_big_quiet_step (fail); refine wpQuiet_nil ?_ -- 5 binOp
    refine seg_held _ rfl ?_; go_big_quiet_step (fail); refine wpQuiet_nil ?_ -- 6 slice
    refine seg_held _ rfl ?_; go_big_quiet_step (fail); refine wpQuiet_nil ?_ -- 7 slice
    refine seg_loud _ rfl rfl ?_; intro K hK -- 8 builtin:copy
    simp only [Nat.add_sub_cancel_left]
    refine wp_cp (.tmp 28) (.tmp 29) 27 27 rfl 5 Try.underlying27 HS.out w.heap.size w.heap.size i l (two n) rfl rfl ho4.drew hbs.drew (by omega) (Nat.le_refl _) (fun _ => ⟨rfl, rfl⟩) (fun w5 ho5 hg5 => hK _ _ ⟨_, fun _ h => h, inC trivial, ?_⟩)
    refine seg_nil ?_
    have hb5 := hb4.drew.trans (below_grown hg5 ho4.drew (Nat.le_refl _) (by have := hb4.size; simp; omega))
    clear hK K hg5 hbs hne
    go_wp2
    go_ret2
    exact ⟨_, _, _, rfl, ho5, hb5⟩
  · have hu : set16 l i n = ([], false) := by unfold set16; rw [if_neg hin]
    rw [hu]
    have hB : isB k i 2 = false := by unfold isB; simp; omega
    clear hu hin h hsz1
    go_enter Try.func72, Try.ntmps72
    go_wp2_with fail
    refine (is_calls _ _ _ _ _ (by omega) _).mono ?_; rintro e w' ⟨rfl, rfl⟩
    go_wp2
    go_ret2
    exact ⟨_, _, _, rfl, Own.nil _ _ _, Below.refl _ _⟩

end Go.Proofs.Ythbllfhaaidhjaa
