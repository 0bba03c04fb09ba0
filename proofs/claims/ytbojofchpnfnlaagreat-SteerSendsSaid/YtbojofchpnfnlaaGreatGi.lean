/- Part Gi of the proof: laws used by the law of this claim. -/
import Derived.Test.YtbojofchpnfnlaaGreatProg
import Derived.Test.YtbojofchpnfnlaaGreatGd
import Derived.Test.YtbojofchpnfnlaaGreatGe
import Derived.Test.YtbojofchpnfnlaaGreatGc
import Derived.Test.YtbojofchpnfnlaaGreatGf
set_option linter.all false
namespace Go.Proofs.YtbojofchpnfnlaaGreat
open Go.RowKit Go.Mix Go.Bas

def octB (n : Int) : Bool := decide (0 ≤ n ∧ n ≤ 255)
def msg0 (kd cd wd : Int) (body : List UInt8) : List UInt8 := [b8 kd, b8 cd, 0, 0] ++ four wd ++ body
def putM (src dst : List UInt8) (kd cd wd : Int) (body : List UInt8) : List UInt8 :=
  if octB kd = true ∧ octB cd = true then (msg0 kd cd wd body).take 2 ++ (two (chk src dst 58 (msg0 kd cd wd body)) ++ (msg0 kd cd wd body).drop 4) else []
theorem octB_iff {n : Int} : octB n = true ↔ 0 ≤ n ∧ n ≤ 255 := by unfold octB; exact decide_eq_true_iff
theorem octB_not {n : Int} : octB n = false ↔ ¬ (0 ≤ n ∧ n ≤ 255) := by unfold octB; exact decide_eq_false_iff_not

theorem octet_calls (n : Int) (w : World) : Calls Tryz.prog 79 #[.int .i64 n] w fun e w' => e = .returned (.bool (octB n)) ∧ w = w' := by
  by_cases h0 : 0 ≤ n
  · by_cases h1 : n ≤ 255
    · have HB := hid (octB_iff.2 ⟨h0, h1⟩)
      go_enter Tryz.func79, Tryz.ntmps79
      go_wp2
      go_ret
      exact ⟨by rw [HB.out]; rfl, rfl⟩
    · have HB := hid (octB_not.2 (fun h => h1 h.2))
      go_enter Tryz.func79, Tryz.ntmps79
      go_wp2
      go_ret
      exact ⟨by rw [HB.out]; rfl, rfl⟩
  · have HB := hid (octB_not.2 (fun h => h0 h.1))
    go_enter Tryz.func79, Tryz.ntmps79
    go_wp2
    go_ret
    exact ⟨by rw [HB.out]; rfl, rfl⟩

set_option maxRecDepth 8000 in
set_option maxHeartbeats 1000000 in
theorem IPut_calls (src dst : List UInt8) (kd cd wd : Int) (A : Option Addr) (n c : Nat) (body : List UInt8) (w : World) (hs : src.length = 16) (hd : dst.length = 16) (h : Bs w A n c body) (hsz : n ≤ 140737488351232) (hw0 : 0 ≤ wd) (hw1 : wd < 4294967296) :
    Calls Tryz.prog 82 #[av src, av dst, .agg #[.int .i64 kd, .int .i64 cd, .int .u32 wd, .slice A n c]] w fun e w' => ∃ A' n' c', e = .returned (.slice A' n' c') ∧ Own w' w.heap.size 5 A' n' c' (putM src dst kd cd wd body) ∧ Below w.heap.size w w' := by
  obtain ⟨i0, hi, hz0, hz1, hz2⟩ := info_parts Tryz.infob
  unfold av
  have HH := hid h
  have HS := hid hs
  have HD := hid hd
  have HW1 := hid hw1
  clear h hs hd hw1
  by_cases k0 : octB kd = true
  · by_cases k1 : octB cd = true
    · have hput : putM src dst kd cd wd body = (msg0 kd cd wd body).take 2 ++ (two (chk src dst 58 (msg0 kd cd wd body)) ++ (msg0 kd cd wd body).drop 4) := if_pos ⟨k0, k1⟩
      have HP := hid hput
      have r0 := octB_iff.1 k0
      have r1 := octB_iff.1 k1
      obtain ⟨r00, r01⟩ := r0
      obtain ⟨r10, r11⟩ := r1
      have K0 := hid k0
      have K1 := hid k1
      clear hput k0 k1
      go_enter Tryz.func82, Tryz.ntmps82
      go_wp2_with fail
      refine (octet_calls _ _).mono ?_; rintro e w' ⟨rfl, rfl⟩
      rw [K0.out]
      go_wp2_with fail
      refine (octet_calls _ _).mono ?_; rintro e w' ⟨rfl, rfl⟩
      rw [K1.out]
      go_wp2_with fail
      refine calls_name ?_; intro w4 hw4
      have hS : Blk w4 w.heap.size 30 (src.map bv) := by rw [hw4]; exact (((Blk.new _ _ _).alloc _).alloc _).alloc _
      have hD : Blk w4 (w.heap.size + 1) 30 (dst.map bv) := by rw [hw4]; exact ((Blk.new_at _ _ _ (by simp)).alloc _).alloc _
      have hM : Blk w4 (w.heap.size + 1 + 1) 41 [.int .i64 kd, .int .i64 cd, .int .u32 wd, .slice A n c] := by rw [hw4]; exact (Blk.new_at _ _ _ (by simp)).alloc _
      have ho4 : Own w4 w.heap.size 5 (some ⟨w.heap.size + 1 + 1 + 1, 0, none⟩) 4 4 [b8 kd, b8 cd, 0, 0] := by
        rw [hw4]; exact Own.made_at _ _ _ _ (by simp) rfl (by simp [bv_b8]; exact ⟨by omega, by omega, rfl⟩) (by simp) (by simp; omega)
      have hb4 : Below w.heap.size w w4 := by rw [hw4]; exact ((((Below.refl _ _).alloc (Nat.le_refl _) _).alloc (by simp) _).alloc (by simp; omega) _).alloc (by simp; omega) _
      have hx4 := hb4.size
      clear hw4
      refine (Put32_calls w.heap.size _ _ _ _ _ _ ho4 hx4 (by omega) hw0 HW1.out).mono ?_; rintro e w5 ⟨A5, n5, c5, rfl, ho5, hg5⟩
      have hS5 := hS.grown hg5 (ho4.apart hS (by decide))
      have hD5 := hD.grown hg5 (ho4.apart hD (by decide))
      have hM5 := hM.grown hg5 (ho4.apart hM (by decide))
      have hb5 := hb4.trans (below_grown hg5 ho4 (Nat.le_refl _) hx4)
      have hn5 : n5 = 8 := by have := ho5.len; simpa [four] using this
      subst hn5
      have c3 := hM5.cell (j := 3) rfl
      have hx5 := hb5.size
      have HS5 := hid hS5
      have HD5 := hid hD5
      have HB5 := hid hb5
      clear hS hD hM ho4 hb4 hg5 hS5 hD5 hM5 hb5 hx4
      go_wp2_with (at_builtin; refine stop ?_)
      refine Stop.on (wpList_app rfl _ _ 22 rfl 5 i0 Tryz.underlying22 hi hz0 hz1 hz2 w.heap.size _ _ rfl rfl ho5 (HH.out.step HB5.out) (by omega) hx5 ?_)
      intro A6 n6 c6 w6 ho6 hg6
      have hS6 := HS5.out.grown hg6 (ho5.apart HS5.out (by decide))
      have hD6 := HD5.out.grown hg6 (ho5.apart HD5.out (by decide))
      have hb6 := HB5.out.trans (below_grown hg6 ho5 (Nat.le_refl _) hx5)
      have hn6 : n6 ≤ 140737488351240 := by have := ho6.len_app ho5; have e := HH.out.len; omega
      have hi16 : (Tryz.prog.info? 30).map (·.size) = some 16 := by kernel_rfl
      have HLS := hid (hS6.ld_all (P := Tryz.prog) Tryz.underlying30 rfl (by rw [List.length_map, HS.out]; exact hi16))
      have HLD := hid (hD6.ld_all (P := Tryz.prog) Tryz.underlying30 rfl (by rw [List.length_map, HD.out]; exact hi16))
      have HB6 := hid hb6
      have HO6 : Hid (Own w6 w.heap.size 5 A6 n6 c6 (msg0 kd cd wd body)) := hid ho6
      clear hg6 ho5 c3 HS5 HD5 HB5 hS6 hD6 hb6 hi16 ho6
      go_wp2_with (with_reducible refine wpList_ld rfl (.agg (src.map bv).toArray) 30 (.tmp 3) (.pointer (some ⟨w.heap.size, 0, none⟩)) rfl rfl (HLS.out) ?_; refine stop ?_)
      refine Stop.on ?_
      go_wp2_with (with_reducible refine wpList_ld rfl (.agg (dst.map bv).toArray) 30 (.tmp 4) (.pointer (some ⟨w.heap.size + 1, 0, none⟩)) rfl rfl (HLD.out) ?_; refine stop ?_)
      refine Stop.on ?_
      go_wp2_with fail
      refine (Check_calls src dst 58 A6 n6 c6 (msg0 kd cd wd body) _ HS.out HD.out HO6.out.bs (by omega)).mono ?_; rintro e w7 ⟨rfl, hb7⟩
      have HB7 := hid (below_next HB6.out hb7)
      have HO7 := hid (HO6.out.step hb7)
      clear hb7 HLS HLD HB6 HO6
      go_wp2_with fail
      refine (Set16_calls A6 n6 c6 (msg0 kd cd wd body) 2 _ _ HO7.out.bs (by omega)).mono ?_; rintro e w8 ⟨A8, n8, c8, rfl, ho8, hb8⟩
      have hset : set16 (msg0 kd cd wd body) 2 (chk src dst 58 (msg0 kd cd wd body)) = (putM src dst kd cd wd body, true) := by
        rw [HP.out]; unfold set16; rw [if_pos ⟨by omega, by simp [msg0, four]; omega⟩]; rfl
      rw [hset] at ho8
      rw [hset]
      have hb8' := below_next HB7.out hb8
      have hx7 := HB7.out.size
      clear hset hb8 HO7 HB7
      go_wp2
      go_ret
      exact ⟨_, _, _, rfl, ho8.mono hx7, hb8'⟩
    · have k1' : octB cd = false := by simpa using k1
      have hput : putM src dst kd cd wd body = [] := if_neg (fun h => k1 h.2)
      have HP := hid hput
      have K0 := hid k0
      have K1 := hid k1'
      clear hput k0 k1 k1'
      go_enter Tryz.func82, Tryz.ntmps82
      go_wp2_with fail
      refine (octet_calls _ _).mono ?_; rintro e w' ⟨rfl, rfl⟩
      rw [K0.out]
      go_wp2_with fail
      refine (octet_calls _ _).mono ?_; rintro e w' ⟨rfl, rfl⟩
      rw [K1.out]
      go_wp2
      go_ret
      exact ⟨_, _, _, rfl, by rw [HP.out]; exact Own.nil _ _ _, (((Below.refl _ _).alloc (Nat.le_refl _) _).alloc (by simp) _).alloc (by simp; omega) _⟩
  · have k0' : octB kd = false := by simpa using k0
    have hput : putM src dst kd cd wd body = [] := if_neg (fun h => k0 h.1)
    have HP := hid hput
    have K0 := hid k0'
    clear hput k0 k0'
    go_enter Tryz.func82, Tryz.ntmps82
    go_wp2_with fail
    refine (octet_calls _ _).mono ?_; rintro e w' ⟨rfl, rfl⟩
    rw [K0.out]
    go_wp2
    go_ret
    exact ⟨_, _, _, rfl, by rw [HP.out]; exact Own.nil _ _ _, (((Below.refl _ _).alloc (Nat.le_refl _) _).alloc (by simp) _).alloc (by simp; omega) _⟩
end Go.Proofs.YtbojofchpnfnlaaGreat

namespace Go.Proofs.YtbojofchpnfnlaaGreat
open Go.RowKit Go.Mix Go.Bas

theorem set_two {l : List UInt8} {c : Int} (h : 4 ≤ l.length) : (l.set 2 (b8 (c / 256))).set 3 (b8 c) = l.take 2 ++ (two c ++ l.drop 4) := by
  match l, h with
  | a :: b :: x :: y :: r, _ => rfl

set_option maxRecDepth 8000 in
set_option maxHeartbeats 2000000 in
theorem rIPut_calls (src dst : List UInt8) (kd cd wd : Int) (A : Option Addr) (n c : Nat) (body : List UInt8) (w : World) (hs : src.length = 16) (hd : dst.length = 16) (h : Bs w A n c body) (hsz : n ≤ 140737488351232) (hw0 : 0 ≤ wd) (hw1 : wd < 4294967296) :
    Calls Tryz.prog 84 #[av src, av dst, .agg #[.int .i64 kd, .int .i64 cd, .int .u32 wd, .slice A n c]] w fun e w' => ∃ A' n' c', e = .returned (.slice A' n' c') ∧ Own w' w.heap.size 5 A' n' c' (putM src dst kd cd wd body) ∧ Below w.heap.size w w' := by
  obtain ⟨i0, hi, hz0, hz1, hz2⟩ := info_parts Tryz.infob
  unfold av
  have HH := hid h
  have HS := hid hs
  have HD := hid hd
  have HW1 := hid hw1
  clear h hs hd hw1
  by_cases r0 : 0 ≤ kd ∧ kd ≤ 255
  · obtain ⟨r00, r01⟩ := r0
    by_cases r1 : 0 ≤ cd ∧ cd ≤ 255
    · obtain ⟨r10, r11⟩ := r1
      have HP : Hid (putM src dst kd cd wd body = (msg0 kd cd wd body).take 2 ++ (two (chk src dst 58 (msg0 kd cd wd body)) ++ (msg0 kd cd wd body).drop 4)) := hid (if_pos ⟨octB_iff.2 ⟨r00, r01⟩, octB_iff.2 ⟨r10, r11⟩⟩)
      have d0 : decide (kd < 0) = false := by simp; omega
      have d1 : decide (255 < kd) = false := by simp; omega
      have d2 : decide (cd < 0) = false := by simp; omega
      have d3 : decide (255 < cd) = false := by simp; omega
      go_enter Tryz.func84, Tryz.ntmps84
      go_wp2_with fail
      refine wp_name ?_; intro w3 hw3
      have hS : Blk w3 w.heap.size 30 (src.map bv) := by rw [hw3]; exact ((Blk.new _ _ _).alloc _).alloc _
      have hD : Blk w3 (w.heap.size + 1) 30 (dst.map bv) := by rw [hw3]; exact (Blk.new_at _ _ _ (by simp)).alloc _
      have hM : Blk w3 (w.heap.size + 1 + 1) 41 [.int .i64 kd, .int .i64 cd, .int .u32 wd, .slice A n c] := by rw [hw3]; exact Blk.new_at _ _ _ (by simp)
      have hb3 : Below w.heap.size w w3 := by rw [hw3]; exact (((Below.refl _ _).alloc (Nat.le_refl _) _).alloc (by simp) _).alloc (by simp; omega) _
      have hx3 := hb3.size
      have hlM := hM.lt
      clear hw3
      have hne : Nonempty (SBW w3.heap.size w3) := Cls.ne (SB.refl (Nat.le_refl _))
      have f0 : ∀ u : SBW w3.heap.size w3, u.w.cell? ⟨w.heap.size + 1 + 1, 0, none⟩ = some (.int .i64 kd) := fun u => u.cell (hM.cell (j := 0) rfl) hlM
      have f1 : ∀ u : SBW w3.heap.size w3, u.w.cell? ⟨w.heap.size + 1 + 1, 1, none⟩ = some (.int .i64 cd) := fun u => u.cell (hM.cell (j := 1) rfl) hlM
      have f2 : ∀ u : SBW w3.heap.size w3, u.w.cell? ⟨w.heap.size + 1 + 1, 2, none⟩ = some (.int .u32 wd) := fun u => u.cell (hM.cell (j := 2) rfl) hlM
      have hq := SB.start (w0 := w3) (Nat.le_refl _)
      have HS3 := hid hS
      have HD3 := hid hD
      have HM3 := hid hM
      have HB3 := hid hb3
      clear hS hD hM hb3
      refine wp_region_segs (fun wq => ∃ u : SBW (w3.heap.size) (w3), wq = u.w) ((0, 0) :: (1, 0) :: (2, 0) :: (3, 0) :: (4, 0) :: (5, 0) :: (7, 0) :: (8, 0) :: (6, 2) :: (9, 2) :: (10, 1) :: (11, 0) :: []) (by kernel_rfl) (by kernel_rfl) (by kernel_rfl) (by kernel_rfl) (inC hq) ?_
      refine seg_held _ rfl ?_; go_big_quiet_step (fail); refine wpQuiet_nil ?_ -- 0 fieldAddr
      refine seg_held _ rfl ?_; go_big_quiet_step (fail); refine wpQuiet_nil ?_ -- 1 load
      refine seg_held _ rfl ?_; go_big_quiet_step (fail); refine wpQuiet_nil ?_ -- 2 convert
      refine seg_held _ rfl ?_; go_big_quiet_step (fail); refine wpQuiet_nil ?_ -- 3 fieldAddr
      refine seg_held _ rfl ?_; go_big_quiet_step (fail); refine wpQuiet_nil ?_ -- 4 load
      refine seg_held _ rfl ?_; go_big_quiet_step (fail); refine wpQuiet_nil ?_ -- 5 convert
      refine seg_held _ rfl ?_; go_big_quiet_step (fail); refine wpQuiet_nil ?_ -- 7 fieldAddr
      refine seg_held _ rfl ?_; go_big_quiet_step (fail); refine wpQuiet_nil ?_ -- 8 load
      refine seg_fork _ _ (fun a w2 => ∃ (A5 : Option Addr) (n5 c5 g : Nat), a = { tmps := #[.agg (List.map bv src).toArray, .agg (List.map bv dst).toArray, .agg #[.int .i64 kd, .int .i64 cd, .int .u32 wd, .slice A n c], .pointer (some ⟨w.heap.size, 0, none⟩), .pointer (some ⟨w.heap.size + 1, 0, none⟩), .pointer (some ⟨w.heap.size + 1 + 1, 0, none⟩), .slice none 0 0, undef, undef, .pointer (some ⟨w.heap.size + 1 + 1, 0, none⟩), .int .i64 kd, .bool false, .bool false, .pointer (some ⟨w.heap.size + 1 + 1, 0, none⟩), .int .i64 kd, .bool false, .bool false, .bool false, .pointer (some ⟨w.heap.size + 1 + 1, 1, none⟩), .int .i64 cd, .bool false, .bool false, .bool false, .pointer (some ⟨w.heap.size + 1 + 1, 1, none⟩), .int .i64 cd, .bool false, .bool false, .pointer (some ⟨w.heap.size + 1 + 1, 0, none⟩), .int .i64 kd, .int .u8 kd, .pointer (some ⟨w.heap.size + 1 + 1, 1, none⟩), .int .i64 cd, .int .u8 cd, .slice (some ⟨g, 0, none⟩) 4 4, .pointer (some ⟨w.heap.size + 1 + 1, 2, none⟩), .int .u32 wd, .slice A5 n5 c5, undef, undef, undef, undef, undef, undef, undef, undef, undef, undef, undef, undef, undef, undef, undef, undef, undef, undef, undef, undef, undef], defers := [] } ∧ Own w2 w3.heap.size 5 (some ⟨g, 0, none⟩) 4 4 [b8 kd, b8 cd, 0, 0] ∧ Own w2 w3.heap.size 5 A5 n5 c5 (four wd) ∧ SB w3.heap.size w3 w2) rfl rfl rfl rfl ?_ ?_ ?_
      · intro K hK
        go_wp2_with fail
        have hoA := (Own.made_at (base := w3.heap.size) (g := w3.heap.size) (m := 4) w3 5 [b8 kd, b8 cd, 0, 0] #[.int .u8 kd, .int .u8 cd, .int .u8 0, .int .u8 0] rfl rfl (by simp [bv_b8]; exact ⟨by omega, by omega, rfl⟩) (by simp) (Nat.le_refl _)).drew
        have hq4 : SB w3.heap.size w3 (w3.alloc (.cells #[.int .u8 kd, .int .u8 cd, .int .u8 0, .int .u8 0] 5)).drew := ((SB.refl (Nat.le_refl _)).alloc _).drew
        refine ⟨inC hq4, fun K' hK' => ?_⟩
        go_wp2_with fail
        refine (Four_calls _ _ hw0 HW1.out).mono ?_; rintro e w5 ⟨A5, n5, c5, rfl, ho5, hb5⟩
        have hq5 := hq4.step hb5
        have hoA5 := hoA.step hb5
        have ho5' := ho5.mono hq4.2
        clear hb5 hoA hq4 ho5
        go_wp2_with fail
        first | exact hK' _ _ ⟨A5, n5, c5, w3.heap.size, rfl, hoA5, ho5', hq5⟩ | exact hK' _ _ A5 n5 c5 _ rfl hoA5 ho5' hq5 | exact hK' _ _ A5 n5 c5 _ ⟨rfl, hoA5, ho5', hq5⟩ | exact ⟨A5, n5, c5, w3.heap.size, rfl, hoA5, ho5', hq5⟩
      · intro K hK
        go_wp2_with fail
        refine (Four_calls _ _ hw0 HW1.out).mono ?_; rintro e w5 ⟨A5, n5, c5, rfl, ho5, hb5⟩
        have hq5 := hq.step hb5
        have ho5' : Own w5 w3.heap.size 5 A5 n5 c5 (four wd) := ho5
        clear hb5
        go_wp2_with fail
        refine ⟨inC hq5, fun K' hK' => ?_⟩
        go_wp2_with fail
        have hoA := Own.made_at (base := w3.heap.size) (g := w5.heap.size) (m := 4) w5 5 [b8 kd, b8 cd, 0, 0] #[.int .u8 kd, .int .u8 cd, .int .u8 0, .int .u8 0] rfl rfl (by simp [bv_b8]; exact ⟨by omega, by omega, rfl⟩) (by simp) hq5.2
        have ho6 := ho5'.alloc (.cells #[.int .u8 kd, .int .u8 cd, .int .u8 0, .int .u8 0] 5)
        have hq6 := hq5.alloc (.cells #[.int .u8 kd, .int .u8 cd, .int .u8 0, .int .u8 0] 5)
        first | exact hK' _ _ ⟨A5, n5, c5, w5.heap.size, rfl, hoA, ho6, hq6⟩ | exact hK' _ _ A5 n5 c5 _ rfl hoA ho6 hq6 | exact hK' _ _ A5 n5 c5 _ ⟨rfl, hoA, ho6, hq6⟩ | exact ⟨A5, n5, c5, w5.heap.size, rfl, hoA, ho6, hq6⟩
      rintro _ w5 ⟨A5, n5, c5, g0, rfl, hoA5, ho5, hq5⟩
      refine ⟨_, fun _ h => h, inC hq5, ?_⟩
      have hn5 : n5 = 4 := ho5.len
      subst hn5
      refine seg_loud _ rfl rfl ?_; intro K hK -- 10 builtin:append
      refine wp_app (.tmp 33) (.tmp 36) 22 rfl 5 i0 Tryz.underlying22 hi hz0 hz1 hz2 w3.heap.size _ _ rfl rfl hoA5 ho5.bs (by omega) hq5.2 (fun A6 n6 c6 w6 ho6 hg6 => hK _ _ ?_)
      have hb6 := below_grown hg6 hoA5 (Nat.le_refl _) hq5.2
      have hq6 := hq5.low hb6
      refine ⟨_, fun _ h => h, inC hq6, ?_⟩
      go_frame
      refine seg_held _ rfl ?_; go_big_quiet_step (fail); refine wpQuiet_nil ?_ -- 11 assign
      refine seg_nil ?_
      have hM6 := HM3.out.below hlM hq6.1
      have c3 := hM6.cell (j := 3) rfl
      have hn6 : n6 = 8 := by have := ho6.len; simpa [four] using this
      subst hn6
      have HS6 := hid (HS3.out.below HS3.out.lt hq6.1)
      have HD6 := hid (HD3.out.below HD3.out.lt hq6.1)
      have HB6 := hid (HB3.out.trans (hq6.1.mono hx3))
      have hx6 := hq6.2
      clear hne f0 f1 f2 hq5 hoA5 hg6 hb6 ho5 hM6 HS3 HD3 HM3 HB3
      go_wp2_with (at_builtin; refine stop ?_)
      refine Stop.on (wpList_app rfl _ _ 22 rfl 5 i0 Tryz.underlying22 hi hz0 hz1 hz2 w3.heap.size _ _ rfl rfl ho6 (HH.out.step HB6.out) (by omega) hx6 ?_)
      intro A7 n7 c7 w7 ho7 hg7
      have hb7 := below_grown hg7 ho6 (Nat.le_refl _) hx6
      have hS7 := HS6.out.grown hg7 (ho6.apart HS6.out (by decide))
      have hD7 := HD6.out.grown hg7 (ho6.apart HD6.out (by decide))
      have hn7 : n7 ≤ 140737488351240 := by have := ho7.len_app ho6; have e := HH.out.len; omega
      have hn7' : 8 ≤ n7 := by have := ho7.len_app ho6; omega
      have hi16 : (Tryz.prog.info? 30).map (·.size) = some 16 := by kernel_rfl
      have HLS := hid (hS7.ld_all (P := Tryz.prog) Tryz.underlying30 rfl (by rw [List.length_map, HS.out]; exact hi16))
      have HLD := hid (hD7.ld_all (P := Tryz.prog) Tryz.underlying30 rfl (by rw [List.length_map, HD.out]; exact hi16))
      have HB7 := hid (HB6.out.trans (hb7.mono hx3))
      have HO7 : Hid (Own w7 w3.heap.size 5 A7 n7 c7 (msg0 kd cd wd body)) := hid ho7
      clear hg7 ho6 c3 HS6 HD6 HB6 hS7 hD7 hb7 hi16 ho7
      go_wp2_with (with_reducible refine wpList_ld rfl (.agg (src.map bv).toArray) 30 (.tmp 3) (.pointer (some ⟨w.heap.size, 0, none⟩)) rfl rfl (HLS.out) ?_; refine stop ?_)
      refine Stop.on ?_
      go_wp2_with (with_reducible refine wpList_ld rfl (.agg (dst.map bv).toArray) 30 (.tmp 4) (.pointer (some ⟨w.heap.size + 1, 0, none⟩)) rfl rfl (HLD.out) ?_; refine stop ?_)
      refine Stop.on ?_
      go_wp2_with fail
      refine (rCheck_calls src dst 58 A7 n7 c7 (msg0 kd cd wd body) _ HS.out HD.out HO7.out.bs (by omega)).mono ?_; rintro e w8 ⟨rfl, hb8⟩
      have HB8 := hid (below_next HB7.out hb8)
      have HO8 := hid (HO7.out.step hb8)
      clear hb8 HLS HLD HB7 HO7
      generalize hck : chk src dst 58 (msg0 kd cd wd body) = ck at *
      go_wp2_with fail
      refine (Two_calls _ _).mono ?_; rintro e w9 ⟨A9, n9, c9, rfl, ho9, hb9⟩
      have hn9 : n9 = 2 := ho9.len
      subst hn9
      obtain ⟨g, rfl, hg0, hg1⟩ := HO8.out.at_ (by omega)
      obtain ⟨g9, rfl, hg90, hg91⟩ := ho9.at_ (by omega)
      have ho8 := HO8.out.step hb9
      have HB9 := hid (below_next HB8.out hb9)
      have t0 := ho9.cell (j := 0) (by omega)
      have t1 := ho9.cell (j := 1) (by omega)
      have e0 : gt (two ck) 0 = ck / 256 % 256 := b8_toNat _
      have e1 : gt (two ck) 1 = ck % 256 := b8_toNat _
      rw [e0] at t0
      rw [e1] at t1
      have hz2' := ho8.cell (j := 2) (by omega)
      have hz3' := ho8.cell (j := 3) (by omega)
      have hf2 := ho8.free (j := 2)
      have hf3 := ho8.free (j := 3)
      have hx9 := HB9.out.size
      have hb9s := hb9.size
      have HO9 := hid ho8
      have hgs : g < w8.heap.size := hg1

      have HO99 := hid ho9
      clear ho8 hb9 HO8 HB8 hck e0 e1 t0 t1 ho9
      go_wp2_with fail
      have hne : Nonempty (Cls (fun wx : World => Own wx w8.heap.size 5 (some ⟨g9, 0, none⟩) 2 c9 (two ck))) := Cls.ne HO99.out
      have e0 : gt (two ck) 0 = ck / 256 % 256 := b8_toNat _
      have e1 : gt (two ck) 1 = ck % 256 := b8_toNat _
      have f0 : ∀ u : Cls (fun wx : World => Own wx w8.heap.size 5 (some ⟨g9, 0, none⟩) 2 c9 (two ck)), u.w.cell? ⟨g9, 0, none⟩ = some (.int .u8 (ck / 256 % 256)) := fun u => by rw [← e0]; exact Own.cell (j := 0) u.is (by omega)
      have f1 : ∀ u : Cls (fun wx : World => Own wx w8.heap.size 5 (some ⟨g9, 0, none⟩) 2 c9 (two ck)), u.w.cell? ⟨g9, 1, none⟩ = some (.int .u8 (ck % 256)) := fun u => by rw [← e1]; exact Own.cell (j := 1) u.is (by omega)
      clear e0 e1
      refine wp_region_segs (fun wq => ∃ u : Cls (fun wx : World => Own wx w8.heap.size 5 (some ⟨g9, 0, none⟩) 2 c9 (two ck)), wq = u.w) ((0, 0) :: (1, 0) :: (2, 0) :: (3, 0) :: (4, 0) :: (5, 0) :: (6, 0) :: (7, 0) :: (8, 0) :: (9, 1) :: (10, 0) :: (11, 1) :: []) (by kernel_rfl) (by kernel_rfl) (by kernel_rfl) (by kernel_rfl) (inC HO99.out.drew) ?_
      refine seg_held _ rfl ?_; go_big_quiet_step (fail); refine wpQuiet_nil ?_ -- 0 move
      refine seg_held _ rfl ?_; go_big_quiet_step (fail); refine wpQuiet_nil ?_ -- 1 move
      refine seg_held _ rfl ?_; go_big_quiet_step (fail); refine wpQuiet_nil ?_ -- 2 move
      refine seg_held _ rfl ?_; go_big_quiet_step (fail); refine wpQuiet_nil ?_ -- 3 indexAddr
      refine seg_held _ rfl ?_; go_big_quiet_step (fail); refine wpQuiet_nil ?_ -- 4 load
      refine seg_held _ rfl ?_; go_big_quiet_step (fail); refine wpQuiet_nil ?_ -- 5 move
      refine seg_held _ rfl ?_; go_big_quiet_step (fail); refine wpQuiet_nil ?_ -- 6 indexAddr
      refine seg_held _ rfl ?_; go_big_quiet_step (fail); refine wpQuiet_nil ?_ -- 7 load
      refine seg_held _ rfl ?_; go_big_quiet_step (fail); refine wpQuiet_nil ?_ -- 8 indexAddr
      refine seg_loud _ rfl rfl ?_; intro K hK -- 9 store
      go_wp2_with fail
      refine ⟨_, fun _ h => h, inC (Own.drew (HO99.out.far (p := ⟨g, 2, none⟩) hgs _)), ?_⟩
      refine seg_held _ rfl ?_; go_big_quiet_step (fail); refine wpQuiet_nil ?_ -- 10 indexAddr
      refine seg_loud _ rfl rfl ?_; intro K hK -- 11 store
      go_wp2_with fail
      refine ⟨_, fun _ h => h, inC (Own.drew ((HO99.out.far (p := ⟨g, 2, none⟩) hgs _).far (p := ⟨g, 3, none⟩) hgs _)), ?_⟩
      refine seg_name ?_; intro w10 hw10
      have hl4 : 4 ≤ (msg0 kd cd wd body).length := by simp [msg0]
      have ho10 : Own w10 w3.heap.size 5 (some ⟨g, 0, none⟩) n7 c7 (putM src dst kd cd wd body) := by
        have := (HO9.out.store (j := 2) (b8 (ck / 256))).store (j := 3) (b8 ck)
        rw [set_two hl4, bv_b8, bv_b8] at this
        rw [HP.out, hw10]
        exact this.drew
      have hb10 : Below w.heap.size w w10 := by rw [hw10]; exact ((HB9.out.setCell (by show w.heap.size ≤ g; omega) _).setCell (by show w.heap.size ≤ g; omega) _).drew
      have HO10 := hid ho10
      have HB10 := hid hb10
      clear hne f0 f1 hw10 ho10 hb10 HO9 HB9 HO99 hz2' hz3' hf2 hf3
      go_wp2
      go_ret
      exact ⟨_, _, _, rfl, HO10.out.mono hx3, HB10.out⟩
    · have HP : Hid (putM src dst kd cd wd body = []) := hid (if_neg (fun h => r1 (octB_iff.1 h.2)))
      have d0 : decide (kd < 0) = false := by simp; omega
      have d1 : decide (255 < kd) = false := by simp; omega
      rcases (show cd < 0 ∨ 255 < cd by omega) with k | k
      all_goals
        clear r1
        go_enter Tryz.func84, Tryz.ntmps84
        go_wp2
        go_ret
        exact ⟨_, _, _, rfl, by rw [HP.out]; exact Own.nil _ _ _, (((Below.refl _ _).alloc (Nat.le_refl _) _).alloc (by simp) _).alloc (by simp; omega) _⟩
  · have HP : Hid (putM src dst kd cd wd body = []) := hid (if_neg (fun h => r0 (octB_iff.1 h.1)))
    rcases (show kd < 0 ∨ 255 < kd by omega) with k | k
    all_goals
      clear r0
      go_enter Tryz.func84, Tryz.ntmps84
      go_wp2
      go_ret
      exact ⟨_, _, _, rfl, by rw [HP.out]; exact Own.nil _ _ _, (((Below.refl _ _).alloc (Nat.le_refl _) _).alloc (by simp) _).alloc (by simp; omega) _⟩
end Go.Proofs.YtbojofchpnfnlaaGreat

namespace Go.Proofs.YtbojofchpnfnlaaGreat
open Go Go.Am Go.RowKit Go.Mix Go.Bas
section
set_option maxRecDepth 100000
end
end Go.Proofs.YtbojofchpnfnlaaGreat

namespace Go.Proofs.YtbojofchpnfnlaaGreat
open Go Go.Am Go.RowKit Go.Mix Go.Bas

theorem msg_inv {O : Nat → Prop} {w : World} {kd cd wd : Int} {body : List UInt8} {c : Value} (h : VRep no O w (.agg [.int .i64 kd, .int .i64 cd, .int .u32 wd, .bytes body]) c) :
    ∃ A n k, c = .agg #[.int .i64 kd, .int .i64 cd, .int .u32 wd, .slice A n k] ∧ Bs w A n k body := by
  obtain ⟨cs, rfl, hc⟩ := h.agg_inv rfl
  cases hc with
  | agg h1 =>
    cases h1 with
    | cons a h1 =>
      cases a
      cases h1 with
      | cons a h1 =>
        cases a
        cases h1 with
        | cons a h1 =>
          cases a
          cases h1 with
          | cons a h1 =>
            cases h1
            cases a with
            | bytes hb _ => exact ⟨_, _, _, rfl, hb⟩
def cPut : List V → Option (V × Bool)
  | [.barr 16 s, .barr 16 d, .agg [.int .i64 kd, .int .i64 cd, .int .u32 wd, .bytes body]] => some (.ownv 5 (.bytes (putM s d kd cd wd body)), decide (body.length ≤ 140737488351232 ∧ 0 ≤ wd ∧ wd < 4294967296))
  | _ => none
theorem IPut_con : ∀ vs v, cPut vs = some (v, true) → SpecV Tryz.prog 82 vs v := by
  intro vs v h; unfold cPut at h; split at h
  · injection h with h; injection h with h hb; subst h
    have hb := of_decide_eq_true hb
    intro O w cs hO hv
    obtain ⟨a, b, c, rfl, ha, hb', hc⟩ := hv.three_inv
    obtain ⟨rfl, h1⟩ := ha.barr_inv
    obtain ⟨rfl, h2⟩ := hb'.barr_inv
    obtain ⟨A, n, k, rfl, hA⟩ := msg_inv hc
    exact kOwn (IPut_calls _ _ _ _ _ _ _ _ _ _ h1 h2 hA (by have := hA.len; omega) hb.2.1 hb.2.2)
  · cases h
theorem rIPut_con : ∀ vs v, cPut vs = some (v, true) → SpecV Tryz.prog 84 vs v := by
  intro vs v h; unfold cPut at h; split at h
  · injection h with h; injection h with h hb; subst h
    have hb := of_decide_eq_true hb
    intro O w cs hO hv
    obtain ⟨a, b, c, rfl, ha, hb', hc⟩ := hv.three_inv
    obtain ⟨rfl, h1⟩ := ha.barr_inv
    obtain ⟨rfl, h2⟩ := hb'.barr_inv
    obtain ⟨A, n, k, rfl, hA⟩ := msg_inv hc
    exact kOwn (rIPut_calls _ _ _ _ _ _ _ _ _ _ h1 h2 hA (by have := hA.len; omega) hb.2.1 hb.2.2)
  · cases h
end Go.Proofs.YtbojofchpnfnlaaGreat

namespace Go.Proofs.YtbojofchpnfnlaaGreat
open Go Go.Am Go.RowKit Go.Mix Go.Bas
def parI (e x : Int) : Int := if e = 0 then x else 0
def parA (e : Int) (l : List UInt8) : List UInt8 := if e = 0 then l else List.replicate 16 0
def geE (b : List UInt8) : Int := if b.length < 40 then 3 else if gt b 0 / 16 = 6 then 0 else 5
def hC (b : List UInt8) : Int := parI (geE b) (gt b 0 % 16 * 16 + gt b 1 / 16)
def hLa (b : List UInt8) : Int := parI (geE b) (gt b 1 % 16 * 65536 + gt b 2 * 256 + gt b 3)
def hLn (b : List UInt8) : Int := parI (geE b) (gt b 4 * 256 + gt b 5)
def hNx (b : List UInt8) : Int := parI (geE b) (gt b 6)
def hHp (b : List UInt8) : Int := parI (geE b) (gt b 7)
def hS (b : List UInt8) : List UInt8 := parA (geE b) (cutL b 8 24)
def hD (b : List UInt8) : List UInt8 := parA (geE b) (cutL b 24 40)
def getV (b : List UInt8) : V := .tup [.agg [.int .i64 (hC b), .int .i64 (hLa b), .int .i64 (hLn b), .int .i64 (hNx b), .int .i64 (hHp b), .barr 16 (hS b), .barr 16 (hD b)], .int .i64 (geE b)]
def cGet : List V → Option (V × Bool)
  | [.bytes b] => some (getV b, true)
  | _ => none
set_option maxRecDepth 100000
noncomputable def af_SixGet : AF := afOf Tryz.prog Tryz.f40 []
theorem af_SixGet_ok : AllOk Tryz.prog 40 af_SixGet := .flat Tryz.func40 (by kernel_rfl) (by kernel_rfl) (by kernel_rfl) (by kernel_rfl) (by kernel_rfl)
noncomputable def af_rSixGet : AF := afOf Tryz.prog Tryz.f25 [.unr 17]
theorem af_rSixGet_ok : AllOk Tryz.prog 25 af_rSixGet := .flat Tryz.func25 (by kernel_rfl) (by kernel_rfl) (by kernel_rfl) (by kernel_rfl) (by kernel_rfl)
noncomputable def GEsx : List (Nat × Con) := [(76, .val [.bytes, .int .i64] cU32), (77, .val [.bytes, .int .i64] cU16)]
theorem GEsx_ok : GOk Tryz.prog GEsx := .cons (enters_of Tryz.func76 (by kernel_rfl) rfl) U32_con <| .cons (enters_of Tryz.func77 (by kernel_rfl) rfl) U16_con <| .nil
noncomputable def IEsx : List (Nat × AF) := []
theorem IEsx_ok : IOk Tryz.prog IEsx := .nil
noncomputable def CEsx : List (Nat × (List Nat × (S → Option (Bool × Tr)))) := []
theorem CEsx_ok : COk Tryz.prog CEsx := .nil
noncomputable def XEsx : List (Nat × (List Sh × (List V → PT))) := []
theorem XEsx_ok : XOk Tryz.prog XEsx := .nil
noncomputable def Esx : Env := ⟨Tryz.prog, GEsx, IEsx, CEsx, XEsx⟩
theorem Esx_ok : EnvOk Esx := ⟨by kernel_rfl, GEsx_ok, IEsx_ok, CEsx_ok, XEsx_ok⟩
theorem SixGet_t (b : List UInt8) : callV Esx af_SixGet [.bytes b] =
 bif decide ((↑b.length : Int) < (40 : Int)) then
 some
 (V.tup
 [V.agg
 [V.int IntKind.i64 (0 : Int), V.int IntKind.i64 (0 : Int), V.int IntKind.i64 (0 : Int),
 V.int IntKind.i64 (0 : Int), V.int IntKind.i64 (0 : Int),
 V.barr (16 : Nat) (List.replicate (16 : Nat) (0 : UInt8)),
 V.barr (16 : Nat) (List.replicate (16 : Nat) (0 : UInt8))],
 V.int IntKind.i64 (3 : Int)])
 else
 bif (u32 b (0 : Int)).1.fdiv (268435456 : Int) != (6 : Int) then
 some
 (V.tup
 [V.agg
 [V.int IntKind.i64 (0 : Int), V.int IntKind.i64 (0 : Int), V.int IntKind.i64 (0 : Int),
 V.int IntKind.i64 (0 : Int), V.int IntKind.i64 (0 : Int),
 V.barr (16 : Nat) (List.replicate (16 : Nat) (0 : UInt8)),
 V.barr (16 : Nat) (List.replicate (16 : Nat) (0 : UInt8))],
 V.int IntKind.i64 (5 : Int)])
 else
 bif andT (andT true (inB (6 : Int) b.length)) (inB (7 : Int) b.length) && true then
 bif andT true (Am.inC (24 : Int) b.length) && true then
 bif andT true (Am.inC (40 : Int) b.length) && true then
 some
 (V.tup
 [V.agg
 [V.int IntKind.i64
 (IntKind.i64.wrap
 (bits BinOp.and IntKind.u32 ((u32 b (0 : Int)).1.fdiv (1048576 : Int)) (255 : Int))),
 V.int IntKind.i64
 (IntKind.i64.wrap (bits BinOp.and IntKind.u32 (u32 b (0 : Int)).1 (1048575 : Int))),
 V.int IntKind.i64 (u16 b (4 : Int)).1, V.int IntKind.i64 (IntKind.i64.wrap (gt b (6 : Nat))),
 V.int IntKind.i64 (IntKind.i64.wrap (gt b (7 : Nat))),
 V.barr (16 : Nat)
 (cpL (List.replicate (16 : Nat) (0 : UInt8)) (0 : Nat) (16 : Nat)
 (cutL b (8 : Nat) (24 : Nat))),
 V.barr (16 : Nat)
 (cpL (List.replicate (16 : Nat) (0 : UInt8)) (0 : Nat) (16 : Nat)
 (cutL b (24 : Nat) (40 : Nat)))],
 V.int IntKind.i64 (0 : Int)])
 else none
 else none
 else none := by kernel_rfl

theorem rSixGet_t (b : List UInt8) : callV Esx af_rSixGet [.bytes b] =
 bif decide ((↑b.length : Int) < (40 : Int)) then
 some
 (V.tup
 [V.agg
 [V.int IntKind.i64 (0 : Int), V.int IntKind.i64 (0 : Int), V.int IntKind.i64 (0 : Int),
 V.int IntKind.i64 (0 : Int), V.int IntKind.i64 (0 : Int),
 V.barr (16 : Nat) (List.replicate (16 : Nat) (0 : UInt8)),
 V.barr (16 : Nat) (List.replicate (16 : Nat) (0 : UInt8))],
 V.int IntKind.i64 (3 : Int)])
 else
 bif andT true (inB (0 : Int) b.length) then
 bif IntKind.u8.wrap ((gt b (0 : Nat)).tdiv (16 : Int)) != (6 : Int) then
 some
 (V.tup
 [V.agg
 [V.int IntKind.i64 (0 : Int), V.int IntKind.i64 (0 : Int), V.int IntKind.i64 (0 : Int),
 V.int IntKind.i64 (0 : Int), V.int IntKind.i64 (0 : Int),
 V.barr (16 : Nat) (List.replicate (16 : Nat) (0 : UInt8)),
 V.barr (16 : Nat) (List.replicate (16 : Nat) (0 : UInt8))],
 V.int IntKind.i64 (5 : Int)])
 else
 bif
 andT
 (andT
 (andT
 (andT
 (andT
 (andT
 (andT (andT (andT true (inB (0 : Int) b.length)) (inB (1 : Int) b.length))
 (inB (1 : Int) b.length))
 (inB (2 : Int) b.length))
 (inB (3 : Int) b.length))
 (inB (4 : Int) b.length))
 (inB (5 : Int) b.length))
 (inB (6 : Int) b.length))
 (inB (7 : Int) b.length) &&
 true then
 bif andT (andT true (inB (8 : Int) b.length)) (inB (24 : Int) b.length) && true then
 bif andT (andT true (inB (9 : Int) b.length)) (inB (25 : Int) b.length) && true then
 bif andT (andT true (inB (10 : Int) b.length)) (inB (26 : Int) b.length) && true then
 bif andT (andT true (inB (11 : Int) b.length)) (inB (27 : Int) b.length) && true then
 bif andT (andT true (inB (12 : Int) b.length)) (inB (28 : Int) b.length) && true then
 bif andT (andT true (inB (13 : Int) b.length)) (inB (29 : Int) b.length) && true then
 bif andT (andT true (inB (14 : Int) b.length)) (inB (30 : Int) b.length) && true then
 bif andT (andT true (inB (15 : Int) b.length)) (inB (31 : Int) b.length) && true then
 bif andT (andT true (inB (16 : Int) b.length)) (inB (32 : Int) b.length) && true then
 bif andT (andT true (inB (17 : Int) b.length)) (inB (33 : Int) b.length) && true then
 bif andT (andT true (inB (18 : Int) b.length)) (inB (34 : Int) b.length) && true then
 bif andT (andT true (inB (19 : Int) b.length)) (inB (35 : Int) b.length) && true then
 bif andT (andT true (inB (20 : Int) b.length)) (inB (36 : Int) b.length) && true then
 bif
 andT (andT true (inB (21 : Int) b.length)) (inB (37 : Int) b.length) &&
 true then
 bif
 andT (andT true (inB (22 : Int) b.length)) (inB (38 : Int) b.length) &&
 true then
 bif
 andT (andT true (inB (23 : Int) b.length)) (inB (39 : Int) b.length) &&
 true then
 some
 (V.tup
 [V.agg
 [V.int IntKind.i64
 (IntKind.i64.wrap
 (IntKind.i64.wrap
 (IntKind.i64.wrap ((gt b (0 : Nat)).tmod (16 : Int)) *
 (16 : Int)) +
 IntKind.i64.wrap
 (IntKind.u8.wrap ((gt b (1 : Nat)).tdiv (16 : Int))))),
 V.int IntKind.i64
 (IntKind.i64.wrap
 (IntKind.i64.wrap
 (IntKind.i64.wrap
 (IntKind.i64.wrap ((gt b (1 : Nat)).tmod (16 : Int)) *
 (65536 : Int)) +
 IntKind.i64.wrap
 (IntKind.i64.wrap (gt b (2 : Nat)) * (256 : Int))) +
 IntKind.i64.wrap (gt b (3 : Nat)))),
 V.int IntKind.i64
 (IntKind.i64.wrap
 (IntKind.i64.wrap
 (IntKind.i64.wrap (gt b (4 : Nat)) * (256 : Int)) +
 IntKind.i64.wrap (gt b (5 : Nat)))),
 V.int IntKind.i64 (IntKind.i64.wrap (gt b (6 : Nat))),
 V.int IntKind.i64 (IntKind.i64.wrap (gt b (7 : Nat))),
 V.barr (16 : Nat)
 (((((((((((((((((List.replicate (16 : Nat) (0 : UInt8)).set
 (0 :
 Nat)
 (u8
 (gt
 b
 (8 :
 Nat)))).set
 (1 :
 Nat)
 (u8
 (gt b
 (9 :
 Nat)))).set
 (2 : Nat)
 (u8
 (gt b
 (10 :
 Nat)))).set
 (3 : Nat)
 (u8
 (gt b
 (11 :
 Nat)))).set
 (4 : Nat)
 (u8
 (gt b
 (12 :
 Nat)))).set
 (5 : Nat)
 (u8
 (gt b
 (13 : Nat)))).set
 (6 : Nat)
 (u8 (gt b (14 : Nat)))).set
 (7 : Nat)
 (u8 (gt b (15 : Nat)))).set
 (8 : Nat)
 (u8 (gt b (16 : Nat)))).set
 (9 : Nat) (u8 (gt b (17 : Nat)))).set
 (10 : Nat) (u8 (gt b (18 : Nat)))).set
 (11 : Nat) (u8 (gt b (19 : Nat)))).set
 (12 : Nat) (u8 (gt b (20 : Nat)))).set
 (13 : Nat) (u8 (gt b (21 : Nat)))).set
 (14 : Nat) (u8 (gt b (22 : Nat)))).set
 (15 : Nat) (u8 (gt b (23 : Nat)))),
 V.barr (16 : Nat)
 (((((((((((((((((List.replicate (16 : Nat) (0 : UInt8)).set
 (0 :
 Nat)
 (u8
 (gt
 b
 (24 :
 Nat)))).set
 (1 :
 Nat)
 (u8
 (gt b
 (25 :
 Nat)))).set
 (2 : Nat)
 (u8
 (gt b
 (26 :
 Nat)))).set
 (3 : Nat)
 (u8
 (gt b
 (27 :
 Nat)))).set
 (4 : Nat)
 (u8
 (gt b
 (28 :
 Nat)))).set
 (5 : Nat)
 (u8
 (gt b
 (29 : Nat)))).set
 (6 : Nat)
 (u8 (gt b (30 : Nat)))).set
 (7 : Nat)
 (u8 (gt b (31 : Nat)))).set
 (8 : Nat)
 (u8 (gt b (32 : Nat)))).set
 (9 : Nat) (u8 (gt b (33 : Nat)))).set
 (10 : Nat) (u8 (gt b (34 : Nat)))).set
 (11 : Nat) (u8 (gt b (35 : Nat)))).set
 (12 : Nat) (u8 (gt b (36 : Nat)))).set
 (13 : Nat) (u8 (gt b (37 : Nat)))).set
 (14 : Nat) (u8 (gt b (38 : Nat)))).set
 (15 : Nat) (u8 (gt b (39 : Nat))))],
 V.int IntKind.i64 (0 : Int)])
 else none
 else none
 else none
 else none
 else none
 else none
 else none
 else none
 else none
 else none
 else none
 else none
 else none
 else none
 else none
 else none
 else none
 else none := by kernel_rfl

theorem SixGet_v (b : List UInt8) : callV Esx af_SixGet [.bytes b] = some (getV b) := by
  rw [SixGet_t]
  unfold getV hC hLa hLn hNx hHp hS hD
  by_cases h : b.length < 40
  · have he : geE b = 3 := if_pos h
    rw [he]
    simp (disch := omega) only [dec_t, cond_true, parI, parA]
    rfl
  · have g0 := gt_lo b 0; have g0' := gt_hi b 0
    have g1 := gt_lo b 1; have g1' := gt_hi b 1
    have g2 := gt_lo b 2; have g2' := gt_hi b 2
    have g3 := gt_lo b 3; have g3' := gt_hi b 3
    have g6 := gt_lo b 6; have g6' := gt_hi b 6
    have g7 := gt_lo b 7; have g7' := gt_hi b 7
    have hu : (u32 b 0).1 = be32 b 0 := by unfold u32; rw [if_pos (by omega)]; rfl
    have hv : (u16 b 4).1 = gt b 4 * 256 + gt b 5 := by unfold u16; rw [if_pos (by omega)]; rfl
    have hb : be32 b 0 = ((gt b 0 * 256 + gt b 1) * 256 + gt b 2) * 256 + gt b 3 := rfl
    have m1 : bits .and .u32 (be32 b 0 / 1048576) 255 = (be32 b 0 / 1048576) % 256 := and_mask_u32 _ 8 (by omega) (by omega) (by omega)
    have m2 : bits .and .u32 (be32 b 0) 1048575 = be32 b 0 % 1048576 := and_mask_u32 _ 20 (by omega) (by omega) (by omega)
    rw [hu, hv]
    simp (disch := omega) only [dec_f, cond_false, fdv, inB_t, inC_t, andT_t, Bool.and_true, cond_true, m1, m2, w64]
    by_cases h6 : gt b 0 / 16 = 6
    · have he : geE b = 0 := by unfold geE; rw [if_neg h, if_pos h6]
      rw [he, ine_f (by omega)]
      simp only [cond_false, parI, parA, if_true]
      have c1 : cpL (List.replicate 16 0) 0 16 (cutL b 8 24) = cutL b 8 24 := cpL_full (l := List.replicate 16 0) (by rw [length_cutL, List.length_replicate]; omega)
      have c2 : cpL (List.replicate 16 0) 0 16 (cutL b 24 40) = cutL b 24 40 := cpL_full (l := List.replicate 16 0) (by rw [length_cutL, List.length_replicate]; omega)
      rw [c1, c2, show be32 b 0 / 1048576 % 256 = gt b 0 % 16 * 16 + gt b 1 / 16 by omega, show be32 b 0 % 1048576 = gt b 1 % 16 * 65536 + gt b 2 * 256 + gt b 3 by omega]
    · have he : geE b = 5 := by unfold geE; rw [if_neg h, if_neg h6]
      rw [he, ine_t (by omega)]
      simp only [cond_true, parI, parA]
      rfl
theorem take_get {l : List UInt8} {i n : Nat} (h : i < l.length) : (l.drop i).take (n + 1) = l.getD i 0 :: (l.drop (i + 1)).take n := by
  rw [List.drop_eq_getElem_cons h, List.take_succ_cons, List.getD_eq_getElem?_getD, List.getElem?_eq_getElem h]
  rfl
theorem cut16 {l : List UInt8} {i : Nat} (h : i + 16 ≤ l.length) : (l.drop i).take 16 = [l.getD i 0, l.getD (i + 1) 0, l.getD (i + 2) 0, l.getD (i + 3) 0, l.getD (i + 4) 0, l.getD (i + 5) 0, l.getD (i + 6) 0, l.getD (i + 7) 0, l.getD (i + 8) 0, l.getD (i + 9) 0, l.getD (i + 10) 0, l.getD (i + 11) 0, l.getD (i + 12) 0, l.getD (i + 13) 0, l.getD (i + 14) 0, l.getD (i + 15) 0] := by
  rw [take_get (by omega), take_get (by omega), take_get (by omega), take_get (by omega), take_get (by omega), take_get (by omega), take_get (by omega), take_get (by omega), take_get (by omega), take_get (by omega), take_get (by omega), take_get (by omega), take_get (by omega), take_get (by omega), take_get (by omega), take_get (by omega), List.take_zero]
theorem rSixGet_v (b : List UInt8) : callV Esx af_rSixGet [.bytes b] = some (getV b) := by
  rw [rSixGet_t]
  unfold getV hC hLa hLn hNx hHp hS hD
  by_cases h : b.length < 40
  · have he : geE b = 3 := if_pos h
    rw [he]
    simp (disch := omega) only [dec_t, cond_true, parI, parA]
    rfl
  · have g0 := gt_lo b 0; have g0' := gt_hi b 0
    have g1 := gt_lo b 1; have g1' := gt_hi b 1
    have g2 := gt_lo b 2; have g2' := gt_hi b 2
    have g3 := gt_lo b 3; have g3' := gt_hi b 3
    have g4 := gt_lo b 4; have g4' := gt_hi b 4
    have g5 := gt_lo b 5; have g5' := gt_hi b 5
    have g6 := gt_lo b 6; have g6' := gt_hi b 6
    have g7 := gt_lo b 7; have g7' := gt_hi b 7
    simp (disch := omega) only [dec_f, cond_false, inB_t, inC_t, andT_t, Bool.and_true, cond_true, tdv, tmd, wu8, w64, u8_gt]
    by_cases h6 : gt b 0 / 16 = 6
    · have he : geE b = 0 := by unfold geE; rw [if_neg h, if_pos h6]
      rw [he, ine_f (by omega)]
      have c1 : cutL b 8 24 = _ := cut16 (l := b) (i := 8) (by omega)
      have c2 : cutL b 24 40 = _ := cut16 (l := b) (i := 24) (by omega)
      simp only [cond_false, parI, parA, if_true, c1, c2]
      rfl
    · have he : geE b = 5 := by unfold geE; rw [if_neg h, if_neg h6]
      rw [he, ine_t (by omega)]
      simp only [cond_true, parI, parA]
      rfl
theorem SixGet_con : ∀ vs v, cGet vs = some (v, true) → SpecV Tryz.prog 40 vs v := by
  intro vs v h; unfold cGet at h; split at h
  · rename_i b
    injection h with h; injection h with h hb; subst h
    exact callV_ok Esx_ok af_SixGet_ok (SixGet_v b)
  · cases h
theorem rSixGet_con : ∀ vs v, cGet vs = some (v, true) → SpecV Tryz.prog 25 vs v := by
  intro vs v h; unfold cGet at h; split at h
  · rename_i b
    injection h with h; injection h with h hb; subst h
    exact callV_ok Esx_ok af_rSixGet_ok (rSixGet_v b)
  · cases h
end Go.Proofs.YtbojofchpnfnlaaGreat

namespace Go.Proofs.YtbojofchpnfnlaaGreat
open Go Go.Am Go.RowKit Go.Mix Go.Bas
set_option maxRecDepth 100000
noncomputable def af_Ibad : AF := afOf Tryz.prog Tryz.f116 []
theorem af_Ibad_ok : AllOk Tryz.prog 116 af_Ibad := .flat Tryz.func116 (by kernel_rfl) (by kernel_rfl) (by kernel_rfl) (by kernel_rfl) (by kernel_rfl)
noncomputable def af_Iknown : AF := afOf Tryz.prog Tryz.f78 []
theorem af_Iknown_ok : AllOk Tryz.prog 78 af_Iknown := .flat Tryz.func78 (by kernel_rfl) (by kernel_rfl) (by kernel_rfl) (by kernel_rfl) (by kernel_rfl)
noncomputable def af_Ioctet : AF := afOf Tryz.prog Tryz.f79 []
theorem af_Ioctet_ok : AllOk Tryz.prog 79 af_Ioctet := .flat Tryz.func79 (by kernel_rfl) (by kernel_rfl) (by kernel_rfl) (by kernel_rfl) (by kernel_rfl)
noncomputable def af_Ifailed : AF := afOf Tryz.prog Tryz.f80 []
theorem af_Ifailed_ok : AllOk Tryz.prog 80 af_Ifailed := .flat Tryz.func80 (by kernel_rfl) (by kernel_rfl) (by kernel_rfl) (by kernel_rfl) (by kernel_rfl)
noncomputable def af_IAbout2 : AF := afOf Tryz.prog Tryz.f41 []
theorem af_IAbout2_ok : AllOk Tryz.prog 41 af_IAbout2 := .flat Tryz.func41 (by kernel_rfl) (by kernel_rfl) (by kernel_rfl) (by kernel_rfl) (by kernel_rfl)
noncomputable def af_rIAbout : AF := afOf Tryz.prog Tryz.f45 []
theorem af_rIAbout_ok : AllOk Tryz.prog 45 af_rIAbout := .flat Tryz.func45 (by kernel_rfl) (by kernel_rfl) (by kernel_rfl) (by kernel_rfl) (by kernel_rfl)
noncomputable def GE8b : List (Nat × Con) := [(81, .val [.bytes] cClone), (40, .val [.bytes] cGet), (25, .val [.bytes] cGet)]

theorem GE8b_ok : GOk Tryz.prog GE8b := .cons (enters_of Tryz.func81 (by kernel_rfl) rfl) Clone_con <| .cons (enters_of Tryz.func40 (by kernel_rfl) rfl) SixGet_con <| .cons (enters_of Tryz.func25 (by kernel_rfl) rfl) rSixGet_con <| .nil

noncomputable def IE8b : List (Nat × AF) := [(116, af_Ibad), (78, af_Iknown), (79, af_Ioctet), (80, af_Ifailed)]
theorem IE8b_ok : IOk Tryz.prog IE8b := .cons af_Ibad_ok <| .cons af_Iknown_ok <| .cons af_Ioctet_ok <| .cons af_Ifailed_ok <| .nil
noncomputable def CE8b : List (Nat × (List Nat × (S → Option (Bool × Tr)))) := []
theorem CE8b_ok : COk Tryz.prog CE8b := .nil
noncomputable def XE8b : List (Nat × (List Sh × (List V → PT))) := []
theorem XE8b_ok : XOk Tryz.prog XE8b := .nil
noncomputable def E8b : Env := ⟨Tryz.prog, GE8b, IE8b, CE8b, XE8b⟩
theorem E8b_ok : EnvOk E8b := ⟨by kernel_rfl, GE8b_ok, IE8b_ok, CE8b_ok, XE8b_ok⟩
def bI (c : Bool) (x : Int) : Int := if c then x else 0
def bL (c : Bool) (l : List UInt8) : List UInt8 := if c then l else []
def abB (k c : Int) (p : List UInt8) : Bool := decide ((1 ≤ k ∧ k ≤ 4) ∧ (0 ≤ c ∧ c ≤ 255) ∧ ¬ (geE p = 0 ∧ hNx p = 58 ∧ 40 < p.length ∧ gt p 40 < 128))
def cIAbout : List V → Option (V × Bool)
  | [.int .i64 k, .int .i64 c, .int .u32 wd, .bytes p] => some (.tup [.agg [.int .i64 (bI (abB k c p) k), .int .i64 (bI (abB k c p) c), .int .u32 (bI (abB k c p) wd), .bytes (bL (abB k c p) (p.take 1232))], .bool (abB k c p)], decide (p.length ≤ 140737488351232))
  | _ => none
theorem IAbout_t (k c wd : Int) (p : List UInt8) : callV E8b af_IAbout2 [.int .i64 k, .int .i64 c, .int .u32 wd, .bytes p] =
 bif k == (1 : Int) then
 bif decide (c ≥ (0 : Int)) then
 bif !decide (c ≤ (255 : Int)) then
 some
 (V.tup
 [V.agg [V.int IntKind.i64 (0 : Int), V.int IntKind.i64 (0 : Int), V.int IntKind.u32 (0 : Int), V.bytes []],
 V.bool false])
 else
 bif geE p != (0 : Int) then
 bif
 andT
 (andT true
 (Am.inC (if (1232 : Int) < (↑p.length : Int) then (1232 : Int) else (↑p.length : Int)) p.length))
 (decide
 ((cutL p (0 : Nat)
 (if (1232 : Int) < (↑p.length : Int) then (1232 : Int) else (↑p.length : Int)).toNat).length ≤
 (140737488355328 : Nat))) then
 some
 (V.tup
 [V.agg
 [V.int IntKind.i64 k, V.int IntKind.i64 c, V.int IntKind.u32 wd,
 V.bytes
 (cutL p (0 : Nat)
 (if (1232 : Int) < (↑p.length : Int) then (1232 : Int) else (↑p.length : Int)).toNat)],
 V.bool true])
 else none
 else
 bif hNx p != (58 : Int) then
 bif
 andT
 (andT true
 (Am.inC (if (1232 : Int) < (↑p.length : Int) then (1232 : Int) else (↑p.length : Int)) p.length))
 (decide
 ((cutL p (0 : Nat)
 (if (1232 : Int) < (↑p.length : Int) then (1232 : Int) else (↑p.length : Int)).toNat).length ≤
 (140737488355328 : Nat))) then
 some
 (V.tup
 [V.agg
 [V.int IntKind.i64 k, V.int IntKind.i64 c, V.int IntKind.u32 wd,
 V.bytes
 (cutL p (0 : Nat)
 (if (1232 : Int) < (↑p.length : Int) then (1232 : Int) else (↑p.length : Int)).toNat)],
 V.bool true])
 else none
 else
 bif decide ((↑p.length : Int) ≤ (40 : Int)) then
 bif
 andT
 (andT true
 (Am.inC (if (1232 : Int) < (↑p.length : Int) then (1232 : Int) else (↑p.length : Int)) p.length))
 (decide
 ((cutL p (0 : Nat)
 (if (1232 : Int) < (↑p.length : Int) then (1232 : Int)
 else (↑p.length : Int)).toNat).length ≤
 (140737488355328 : Nat))) then
 some
 (V.tup
 [V.agg
 [V.int IntKind.i64 k, V.int IntKind.i64 c, V.int IntKind.u32 wd,
 V.bytes
 (cutL p (0 : Nat)
 (if (1232 : Int) < (↑p.length : Int) then (1232 : Int) else (↑p.length : Int)).toNat)],
 V.bool true])
 else none
 else
 bif andT true (inB (40 : Int) p.length) then
 bif andT true (inB (40 : Int) p.length) then
 bif decide (IntKind.i64.wrap (gt p (40 : Nat)) ≥ (0 : Int)) then
 bif decide (IntKind.i64.wrap (gt p (40 : Nat)) < (128 : Int)) then
 some
 (V.tup
 [V.agg
 [V.int IntKind.i64 (0 : Int), V.int IntKind.i64 (0 : Int), V.int IntKind.u32 (0 : Int),
 V.bytes []],
 V.bool false])
 else
 bif
 andT
 (andT true
 (Am.inC (if (1232 : Int) < (↑p.length : Int) then (1232 : Int) else (↑p.length : Int))
 p.length))
 (decide
 ((cutL p (0 : Nat)
 (if (1232 : Int) < (↑p.length : Int) then (1232 : Int)
 else (↑p.length : Int)).toNat).length ≤
 (140737488355328 : Nat))) then
 some
 (V.tup
 [V.agg
 [V.int IntKind.i64 k, V.int IntKind.i64 c, V.int IntKind.u32 wd,
 V.bytes
 (cutL p (0 : Nat)
 (if (1232 : Int) < (↑p.length : Int) then (1232 : Int)
 else (↑p.length : Int)).toNat)],
 V.bool true])
 else none
 else
 bif
 andT
 (andT true
 (Am.inC (if (1232 : Int) < (↑p.length : Int) then (1232 : Int) else (↑p.length : Int))
 p.length))
 (decide
 ((cutL p (0 : Nat)
 (if (1232 : Int) < (↑p.length : Int) then (1232 : Int)
 else (↑p.length : Int)).toNat).length ≤
 (140737488355328 : Nat))) then
 some
 (V.tup
 [V.agg
 [V.int IntKind.i64 k, V.int IntKind.i64 c, V.int IntKind.u32 wd,
 V.bytes
 (cutL p (0 : Nat)
 (if (1232 : Int) < (↑p.length : Int) then (1232 : Int)
 else (↑p.length : Int)).toNat)],
 V.bool true])
 else none
 else none
 else none
 else
 some
 (V.tup
 [V.agg [V.int IntKind.i64 (0 : Int), V.int IntKind.i64 (0 : Int), V.int IntKind.u32 (0 : Int), V.bytes []],
 V.bool false])
 else
 bif k == (2 : Int) then
 bif decide (c ≥ (0 : Int)) then
 bif !decide (c ≤ (255 : Int)) then
 some
 (V.tup
 [V.agg
 [V.int IntKind.i64 (0 : Int), V.int IntKind.i64 (0 : Int), V.int IntKind.u32 (0 : Int), V.bytes []],
 V.bool false])
 else
 bif geE p != (0 : Int) then
 bif
 andT
 (andT true
 (Am.inC (if (1232 : Int) < (↑p.length : Int) then (1232 : Int) else (↑p.length : Int)) p.length))
 (decide
 ((cutL p (0 : Nat)
 (if (1232 : Int) < (↑p.length : Int) then (1232 : Int) else (↑p.length : Int)).toNat).length ≤
 (140737488355328 : Nat))) then
 some
 (V.tup
 [V.agg
 [V.int IntKind.i64 k, V.int IntKind.i64 c, V.int IntKind.u32 wd,
 V.bytes
 (cutL p (0 : Nat)
 (if (1232 : Int) < (↑p.length : Int) then (1232 : Int) else (↑p.length : Int)).toNat)],
 V.bool true])
 else none
 else
 bif hNx p != (58 : Int) then
 bif
 andT
 (andT true
 (Am.inC (if (1232 : Int) < (↑p.length : Int) then (1232 : Int) else (↑p.length : Int)) p.length))
 (decide
 ((cutL p (0 : Nat)
 (if (1232 : Int) < (↑p.length : Int) then (1232 : Int)
 else (↑p.length : Int)).toNat).length ≤
 (140737488355328 : Nat))) then
 some
 (V.tup
 [V.agg
 [V.int IntKind.i64 k, V.int IntKind.i64 c, V.int IntKind.u32 wd,
 V.bytes
 (cutL p (0 : Nat)
 (if (1232 : Int) < (↑p.length : Int) then (1232 : Int) else (↑p.length : Int)).toNat)],
 V.bool true])
 else none
 else
 bif decide ((↑p.length : Int) ≤ (40 : Int)) then
 bif
 andT
 (andT true
 (Am.inC (if (1232 : Int) < (↑p.length : Int) then (1232 : Int) else (↑p.length : Int))
 p.length))
 (decide
 ((cutL p (0 : Nat)
 (if (1232 : Int) < (↑p.length : Int) then (1232 : Int)
 else (↑p.length : Int)).toNat).length ≤
 (140737488355328 : Nat))) then
 some
 (V.tup
 [V.agg
 [V.int IntKind.i64 k, V.int IntKind.i64 c, V.int IntKind.u32 wd,
 V.bytes
 (cutL p (0 : Nat)
 (if (1232 : Int) < (↑p.length : Int) then (1232 : Int) else (↑p.length : Int)).toNat)],
 V.bool true])
 else none
 else
 bif andT true (inB (40 : Int) p.length) then
 bif andT true (inB (40 : Int) p.length) then
 bif decide (IntKind.i64.wrap (gt p (40 : Nat)) ≥ (0 : Int)) then
 bif decide (IntKind.i64.wrap (gt p (40 : Nat)) < (128 : Int)) then
 some
 (V.tup
 [V.agg
 [V.int IntKind.i64 (0 : Int), V.int IntKind.i64 (0 : Int), V.int IntKind.u32 (0 : Int),
 V.bytes []],
 V.bool false])
 else
 bif
 andT
 (andT true
 (Am.inC (if (1232 : Int) < (↑p.length : Int) then (1232 : Int) else (↑p.length : Int))
 p.length))
 (decide
 ((cutL p (0 : Nat)
 (if (1232 : Int) < (↑p.length : Int) then (1232 : Int)
 else (↑p.length : Int)).toNat).length ≤
 (140737488355328 : Nat))) then
 some
 (V.tup
 [V.agg
 [V.int IntKind.i64 k, V.int IntKind.i64 c, V.int IntKind.u32 wd,
 V.bytes
 (cutL p (0 : Nat)
 (if (1232 : Int) < (↑p.length : Int) then (1232 : Int)
 else (↑p.length : Int)).toNat)],
 V.bool true])
 else none
 else
 bif
 andT
 (andT true
 (Am.inC (if (1232 : Int) < (↑p.length : Int) then (1232 : Int) else (↑p.length : Int))
 p.length))
 (decide
 ((cutL p (0 : Nat)
 (if (1232 : Int) < (↑p.length : Int) then (1232 : Int)
 else (↑p.length : Int)).toNat).length ≤
 (140737488355328 : Nat))) then
 some
 (V.tup
 [V.agg
 [V.int IntKind.i64 k, V.int IntKind.i64 c, V.int IntKind.u32 wd,
 V.bytes
 (cutL p (0 : Nat)
 (if (1232 : Int) < (↑p.length : Int) then (1232 : Int)
 else (↑p.length : Int)).toNat)],
 V.bool true])
 else none
 else none
 else none
 else
 some
 (V.tup
 [V.agg [V.int IntKind.i64 (0 : Int), V.int IntKind.i64 (0 : Int), V.int IntKind.u32 (0 : Int), V.bytes []],
 V.bool false])
 else
 bif k == (3 : Int) then
 bif decide (c ≥ (0 : Int)) then
 bif !decide (c ≤ (255 : Int)) then
 some
 (V.tup
 [V.agg
 [V.int IntKind.i64 (0 : Int), V.int IntKind.i64 (0 : Int), V.int IntKind.u32 (0 : Int), V.bytes []],
 V.bool false])
 else
 bif geE p != (0 : Int) then
 bif
 andT
 (andT true
 (Am.inC (if (1232 : Int) < (↑p.length : Int) then (1232 : Int) else (↑p.length : Int)) p.length))
 (decide
 ((cutL p (0 : Nat)
 (if (1232 : Int) < (↑p.length : Int) then (1232 : Int)
 else (↑p.length : Int)).toNat).length ≤
 (140737488355328 : Nat))) then
 some
 (V.tup
 [V.agg
 [V.int IntKind.i64 k, V.int IntKind.i64 c, V.int IntKind.u32 wd,
 V.bytes
 (cutL p (0 : Nat)
 (if (1232 : Int) < (↑p.length : Int) then (1232 : Int) else (↑p.length : Int)).toNat)],
 V.bool true])
 else none
 else
 bif hNx p != (58 : Int) then
 bif
 andT
 (andT true
 (Am.inC (if (1232 : Int) < (↑p.length : Int) then (1232 : Int) else (↑p.length : Int))
 p.length))
 (decide
 ((cutL p (0 : Nat)
 (if (1232 : Int) < (↑p.length : Int) then (1232 : Int)
 else (↑p.length : Int)).toNat).length ≤
 (140737488355328 : Nat))) then
 some
 (V.tup
 [V.agg
 [V.int IntKind.i64 k, V.int IntKind.i64 c, V.int IntKind.u32 wd,
 V.bytes
 (cutL p (0 : Nat)
 (if (1232 : Int) < (↑p.length : Int) then (1232 : Int) else (↑p.length : Int)).toNat)],
 V.bool true])
 else none
 else
 bif decide ((↑p.length : Int) ≤ (40 : Int)) then
 bif
 andT
 (andT true
 (Am.inC (if (1232 : Int) < (↑p.length : Int) then (1232 : Int) else (↑p.length : Int))
 p.length))
 (decide
 ((cutL p (0 : Nat)
 (if (1232 : Int) < (↑p.length : Int) then (1232 : Int)
 else (↑p.length : Int)).toNat).length ≤
 (140737488355328 : Nat))) then
 some
 (V.tup
 [V.agg
 [V.int IntKind.i64 k, V.int IntKind.i64 c, V.int IntKind.u32 wd,
 V.bytes
 (cutL p (0 : Nat)
 (if (1232 : Int) < (↑p.length : Int) then (1232 : Int)
 else (↑p.length : Int)).toNat)],
 V.bool true])
 else none
 else
 bif andT true (inB (40 : Int) p.length) then
 bif andT true (inB (40 : Int) p.length) then
 bif decide (IntKind.i64.wrap (gt p (40 : Nat)) ≥ (0 : Int)) then
 bif decide (IntKind.i64.wrap (gt p (40 : Nat)) < (128 : Int)) then
 some
 (V.tup
 [V.agg
 [V.int IntKind.i64 (0 : Int), V.int IntKind.i64 (0 : Int),
 V.int IntKind.u32 (0 : Int), V.bytes []],
 V.bool false])
 else
 bif
 andT
 (andT true
 (Am.inC (if (1232 : Int) < (↑p.length : Int) then (1232 : Int) else (↑p.length : Int))
 p.length))
 (decide
 ((cutL p (0 : Nat)
 (if (1232 : Int) < (↑p.length : Int) then (1232 : Int)
 else (↑p.length : Int)).toNat).length ≤
 (140737488355328 : Nat))) then
 some
 (V.tup
 [V.agg
 [V.int IntKind.i64 k, V.int IntKind.i64 c, V.int IntKind.u32 wd,
 V.bytes
 (cutL p (0 : Nat)
 (if (1232 : Int) < (↑p.length : Int) then (1232 : Int)
 else (↑p.length : Int)).toNat)],
 V.bool true])
 else none
 else
 bif
 andT
 (andT true
 (Am.inC (if (1232 : Int) < (↑p.length : Int) then (1232 : Int) else (↑p.length : Int))
 p.length))
 (decide
 ((cutL p (0 : Nat)
 (if (1232 : Int) < (↑p.length : Int) then (1232 : Int)
 else (↑p.length : Int)).toNat).length ≤
 (140737488355328 : Nat))) then
 some
 (V.tup
 [V.agg
 [V.int IntKind.i64 k, V.int IntKind.i64 c, V.int IntKind.u32 wd,
 V.bytes
 (cutL p (0 : Nat)
 (if (1232 : Int) < (↑p.length : Int) then (1232 : Int)
 else (↑p.length : Int)).toNat)],
 V.bool true])
 else none
 else none
 else none
 else
 some
 (V.tup
 [V.agg
 [V.int IntKind.i64 (0 : Int), V.int IntKind.i64 (0 : Int), V.int IntKind.u32 (0 : Int), V.bytes []],
 V.bool false])
 else
 bif k == (4 : Int) then
 bif decide (c ≥ (0 : Int)) then
 bif !decide (c ≤ (255 : Int)) then
 some
 (V.tup
 [V.agg
 [V.int IntKind.i64 (0 : Int), V.int IntKind.i64 (0 : Int), V.int IntKind.u32 (0 : Int),
 V.bytes []],
 V.bool false])
 else
 bif geE p != (0 : Int) then
 bif
 andT
 (andT true
 (Am.inC (if (1232 : Int) < (↑p.length : Int) then (1232 : Int) else (↑p.length : Int))
 p.length))
 (decide
 ((cutL p (0 : Nat)
 (if (1232 : Int) < (↑p.length : Int) then (1232 : Int)
 else (↑p.length : Int)).toNat).length ≤
 (140737488355328 : Nat))) then
 some
 (V.tup
 [V.agg
 [V.int IntKind.i64 k, V.int IntKind.i64 c, V.int IntKind.u32 wd,
 V.bytes
 (cutL p (0 : Nat)
 (if (1232 : Int) < (↑p.length : Int) then (1232 : Int) else (↑p.length : Int)).toNat)],
 V.bool true])
 else none
 else
 bif hNx p != (58 : Int) then
 bif
 andT
 (andT true
 (Am.inC (if (1232 : Int) < (↑p.length : Int) then (1232 : Int) else (↑p.length : Int))
 p.length))
 (decide
 ((cutL p (0 : Nat)
 (if (1232 : Int) < (↑p.length : Int) then (1232 : Int)
 else (↑p.length : Int)).toNat).length ≤
 (140737488355328 : Nat))) then
 some
 (V.tup
 [V.agg
 [V.int IntKind.i64 k, V.int IntKind.i64 c, V.int IntKind.u32 wd,
 V.bytes
 (cutL p (0 : Nat)
 (if (1232 : Int) < (↑p.length : Int) then (1232 : Int)
 else (↑p.length : Int)).toNat)],
 V.bool true])
 else none
 else
 bif decide ((↑p.length : Int) ≤ (40 : Int)) then
 bif
 andT
 (andT true
 (Am.inC (if (1232 : Int) < (↑p.length : Int) then (1232 : Int) else (↑p.length : Int))
 p.length))
 (decide
 ((cutL p (0 : Nat)
 (if (1232 : Int) < (↑p.length : Int) then (1232 : Int)
 else (↑p.length : Int)).toNat).length ≤
 (140737488355328 : Nat))) then
 some
 (V.tup
 [V.agg
 [V.int IntKind.i64 k, V.int IntKind.i64 c, V.int IntKind.u32 wd,
 V.bytes
 (cutL p (0 : Nat)
 (if (1232 : Int) < (↑p.length : Int) then (1232 : Int)
 else (↑p.length : Int)).toNat)],
 V.bool true])
 else none
 else
 bif andT true (inB (40 : Int) p.length) then
 bif andT true (inB (40 : Int) p.length) then
 bif decide (IntKind.i64.wrap (gt p (40 : Nat)) ≥ (0 : Int)) then
 bif decide (IntKind.i64.wrap (gt p (40 : Nat)) < (128 : Int)) then
 some
 (V.tup
 [V.agg
 [V.int IntKind.i64 (0 : Int), V.int IntKind.i64 (0 : Int),
 V.int IntKind.u32 (0 : Int), V.bytes []],
 V.bool false])
 else
 bif
 andT
 (andT true
 (Am.inC
 (if (1232 : Int) < (↑p.length : Int) then (1232 : Int) else (↑p.length : Int))
 p.length))
 (decide
 ((cutL p (0 : Nat)
 (if (1232 : Int) < (↑p.length : Int) then (1232 : Int)
 else (↑p.length : Int)).toNat).length ≤
 (140737488355328 : Nat))) then
 some
 (V.tup
 [V.agg
 [V.int IntKind.i64 k, V.int IntKind.i64 c, V.int IntKind.u32 wd,
 V.bytes
 (cutL p (0 : Nat)
 (if (1232 : Int) < (↑p.length : Int) then (1232 : Int)
 else (↑p.length : Int)).toNat)],
 V.bool true])
 else none
 else
 bif
 andT
 (andT true
 (Am.inC (if (1232 : Int) < (↑p.length : Int) then (1232 : Int) else (↑p.length : Int))
 p.length))
 (decide
 ((cutL p (0 : Nat)
 (if (1232 : Int) < (↑p.length : Int) then (1232 : Int)
 else (↑p.length : Int)).toNat).length ≤
 (140737488355328 : Nat))) then
 some
 (V.tup
 [V.agg
 [V.int IntKind.i64 k, V.int IntKind.i64 c, V.int IntKind.u32 wd,
 V.bytes
 (cutL p (0 : Nat)
 (if (1232 : Int) < (↑p.length : Int) then (1232 : Int)
 else (↑p.length : Int)).toNat)],
 V.bool true])
 else none
 else none
 else none
 else
 some
 (V.tup
 [V.agg
 [V.int IntKind.i64 (0 : Int), V.int IntKind.i64 (0 : Int), V.int IntKind.u32 (0 : Int), V.bytes []],
 V.bool false])
 else
 some
 (V.tup
 [V.agg
 [V.int IntKind.i64 (0 : Int), V.int IntKind.i64 (0 : Int), V.int IntKind.u32 (0 : Int), V.bytes []],
 V.bool false]) := by kernel_rfl

theorem rIAbout_t (k c wd : Int) (p : List UInt8) : callV E8b af_rIAbout [.int .i64 k, .int .i64 c, .int .u32 wd, .bytes p] =
 bif decide (k < (1 : Int)) then
 some
 (V.tup
 [V.agg [V.int IntKind.i64 (0 : Int), V.int IntKind.i64 (0 : Int), V.int IntKind.u32 (0 : Int), V.bytes []],
 V.bool false])
 else
 bif decide (k > (4 : Int)) then
 some
 (V.tup
 [V.agg [V.int IntKind.i64 (0 : Int), V.int IntKind.i64 (0 : Int), V.int IntKind.u32 (0 : Int), V.bytes []],
 V.bool false])
 else
 bif decide (c < (0 : Int)) then
 some
 (V.tup
 [V.agg [V.int IntKind.i64 (0 : Int), V.int IntKind.i64 (0 : Int), V.int IntKind.u32 (0 : Int), V.bytes []],
 V.bool false])
 else
 bif decide (c > (255 : Int)) then
 some
 (V.tup
 [V.agg
 [V.int IntKind.i64 (0 : Int), V.int IntKind.i64 (0 : Int), V.int IntKind.u32 (0 : Int), V.bytes []],
 V.bool false])
 else
 bif geE p == (0 : Int) then
 bif hNx p == (58 : Int) then
 bif decide ((↑p.length : Int) > (40 : Int)) then
 bif andT true (inB (40 : Int) p.length) then
 bif decide (gt p (40 : Nat) < (128 : Int)) then
 some
 (V.tup
 [V.agg
 [V.int IntKind.i64 (0 : Int), V.int IntKind.i64 (0 : Int), V.int IntKind.u32 (0 : Int),
 V.bytes []],
 V.bool false])
 else
 bif decide ((↑p.length : Int) > (1232 : Int)) then
 bif andT true (Am.inC (1232 : Int) p.length) then
 bif
 andT true
 (((List.replicate (0 : Nat) (0 : UInt8) ++ cutL p (0 : Nat) (1232 : Nat)).length *
 (1 : Nat)).ble
 (140737488355328 : Nat)) then
 some
 (V.tup
 [V.agg
 [V.int IntKind.i64 k, V.int IntKind.i64 c, V.int IntKind.u32 wd,
 V.bytes (List.replicate (0 : Nat) (0 : UInt8) ++ cutL p (0 : Nat) (1232 : Nat))],
 V.bool true])
 else none
 else none
 else
 bif
 andT true
 (((List.replicate (0 : Nat) (0 : UInt8) ++ p).length * (1 : Nat)).ble
 (140737488355328 : Nat)) then
 some
 (V.tup
 [V.agg
 [V.int IntKind.i64 k, V.int IntKind.i64 c, V.int IntKind.u32 wd,
 V.bytes (List.replicate (0 : Nat) (0 : UInt8) ++ p)],
 V.bool true])
 else none
 else none
 else
 bif decide ((↑p.length : Int) > (1232 : Int)) then
 bif andT true (Am.inC (1232 : Int) p.length) then
 bif
 andT true
 (((List.replicate (0 : Nat) (0 : UInt8) ++ cutL p (0 : Nat) (1232 : Nat)).length *
 (1 : Nat)).ble
 (140737488355328 : Nat)) then
 some
 (V.tup
 [V.agg
 [V.int IntKind.i64 k, V.int IntKind.i64 c, V.int IntKind.u32 wd,
 V.bytes (List.replicate (0 : Nat) (0 : UInt8) ++ cutL p (0 : Nat) (1232 : Nat))],
 V.bool true])
 else none
 else none
 else
 bif
 andT true
 (((List.replicate (0 : Nat) (0 : UInt8) ++ p).length * (1 : Nat)).ble
 (140737488355328 : Nat)) then
 some
 (V.tup
 [V.agg
 [V.int IntKind.i64 k, V.int IntKind.i64 c, V.int IntKind.u32 wd,
 V.bytes (List.replicate (0 : Nat) (0 : UInt8) ++ p)],
 V.bool true])
 else none
 else
 bif decide ((↑p.length : Int) > (1232 : Int)) then
 bif andT true (Am.inC (1232 : Int) p.length) then
 bif
 andT true
 (((List.replicate (0 : Nat) (0 : UInt8) ++ cutL p (0 : Nat) (1232 : Nat)).length *
 (1 : Nat)).ble
 (140737488355328 : Nat)) then
 some
 (V.tup
 [V.agg
 [V.int IntKind.i64 k, V.int IntKind.i64 c, V.int IntKind.u32 wd,
 V.bytes (List.replicate (0 : Nat) (0 : UInt8) ++ cutL p (0 : Nat) (1232 : Nat))],
 V.bool true])
 else none
 else none
 else
 bif
 andT true
 (((List.replicate (0 : Nat) (0 : UInt8) ++ p).length * (1 : Nat)).ble
 (140737488355328 : Nat)) then
 some
 (V.tup
 [V.agg
 [V.int IntKind.i64 k, V.int IntKind.i64 c, V.int IntKind.u32 wd,
 V.bytes (List.replicate (0 : Nat) (0 : UInt8) ++ p)],
 V.bool true])
 else none
 else
 bif decide ((↑p.length : Int) > (1232 : Int)) then
 bif andT true (Am.inC (1232 : Int) p.length) then
 bif
 andT true
 (((List.replicate (0 : Nat) (0 : UInt8) ++ cutL p (0 : Nat) (1232 : Nat)).length * (1 : Nat)).ble
 (140737488355328 : Nat)) then
 some
 (V.tup
 [V.agg
 [V.int IntKind.i64 k, V.int IntKind.i64 c, V.int IntKind.u32 wd,
 V.bytes (List.replicate (0 : Nat) (0 : UInt8) ++ cutL p (0 : Nat) (1232 : Nat))],
 V.bool true])
 else none
 else none
 else
 bif
 andT true
 (((List.replicate (0 : Nat) (0 : UInt8) ++ p).length * (1 : Nat)).ble (140737488355328 : Nat)) then
 some
 (V.tup
 [V.agg
 [V.int IntKind.i64 k, V.int IntKind.i64 c, V.int IntKind.u32 wd,
 V.bytes (List.replicate (0 : Nat) (0 : UInt8) ++ p)],
 V.bool true])
 else none := by kernel_rfl

theorem IAbout_v (k c wd : Int) (p : List UInt8) (hp : p.length ≤ 140737488351232) : callV E8b af_IAbout2 [.int .i64 k, .int .i64 c, .int .u32 wd, .bytes p] = some (.tup [.agg [.int .i64 (bI (abB k c p) k), .int .i64 (bI (abB k c p) c), .int .u32 (bI (abB k c p) wd), .bytes (bL (abB k c p) (p.take 1232))], .bool (abB k c p)]) := by
  rw [IAbout_t]
  have g := gt_lo p 40; have g' := gt_hi p 40
  have hm : (if (1232 : Int) < ↑p.length then (1232 : Int) else ↑p.length).toNat = min 1232 p.length := by split <;> omega
  have hm0 : 0 ≤ (if (1232 : Int) < ↑p.length then (1232 : Int) else ↑p.length) := by split <;> omega
  have hm1 : (if (1232 : Int) < ↑p.length then (1232 : Int) else ↑p.length) ≤ ↑p.length := by split <;> omega
  rw [hm, cutL_zero, inC_t hm0 hm1, w64 (by omega) (by omega)]
  have ht : p.take (min 1232 p.length) = p.take 1232 := by rw [← List.take_take, List.take_length]
  have hl : (p.take 1232).length ≤ 140737488355328 := by rw [List.length_take]; omega
  rw [ht, dec_t hl]
  clear hm hm0 hm1 hl ht
  cases hb : abB k c p with
  | true =>
    have hb' := of_decide_eq_true hb
    try simp only [andT_t, andT_f, cond_true, cond_false, Bool.and_true, Bool.true_and, beq_self_eq_true]
    repeat' (refine bcase (fun hbc => ?_) (fun hbc => ?_))
    all_goals try simp only [decide_eq_true_eq, beq_iff_eq, bne_iff_ne, ne_eq, Bool.and_eq_true, andT_and, inB_iff, inC_iff, nble_iff, nblt_iff, decide_eq_false_iff_not, Bool.not_eq_true', Bool.not_eq_false', beq_eq_false_iff_ne, bne_eq_false_iff_eq, Bool.true_and, Bool.and_true, inB_iff_f, inC_iff_f, nble_iff_f, Bool.or_eq_true, Bool.not_eq_true, Decidable.not_not] at *
    all_goals first | rfl | (exfalso; omega)
  | false =>
    have hb' := of_decide_eq_false hb
    try simp only [andT_t, andT_f, cond_true, cond_false, Bool.and_true, Bool.true_and, beq_self_eq_true]
    repeat' (refine bcase (fun hbc => ?_) (fun hbc => ?_))
    all_goals try simp only [decide_eq_true_eq, beq_iff_eq, bne_iff_ne, ne_eq, Bool.and_eq_true, andT_and, inB_iff, inC_iff, nble_iff, nblt_iff, decide_eq_false_iff_not, Bool.not_eq_true', Bool.not_eq_false', beq_eq_false_iff_ne, bne_eq_false_iff_eq, Bool.true_and, Bool.and_true, inB_iff_f, inC_iff_f, nble_iff_f, Bool.or_eq_true, Bool.not_eq_true, Decidable.not_not] at *
    all_goals first | rfl | (exfalso; omega)
theorem rIAbout_v (k c wd : Int) (p : List UInt8) (hp : p.length ≤ 140737488351232) : callV E8b af_rIAbout [.int .i64 k, .int .i64 c, .int .u32 wd, .bytes p] = some (.tup [.agg [.int .i64 (bI (abB k c p) k), .int .i64 (bI (abB k c p) c), .int .u32 (bI (abB k c p) wd), .bytes (bL (abB k c p) (p.take 1232))], .bool (abB k c p)]) := by
  rw [rIAbout_t]
  have g := gt_lo p 40; have g' := gt_hi p 40
  have hm : p.take 1232 = if p.length > 1232 then p.take 1232 else p := by
    split
    · rfl
    · exact List.take_of_length_le (by omega)
  simp only [List.replicate_zero, List.nil_append, cutL_zero, List.length_take, Nat.mul_one]
  rw [hm]
  cases hb : abB k c p with
  | true =>
    have hb' := of_decide_eq_true hb
    try simp only [andT_t, andT_f, cond_true, cond_false, Bool.and_true, Bool.true_and, beq_self_eq_true]
    repeat' (refine bcase (fun hbc => ?_) (fun hbc => ?_))
    all_goals try simp only [decide_eq_true_eq, beq_iff_eq, bne_iff_ne, ne_eq, Bool.and_eq_true, andT_and, inB_iff, inC_iff, nble_iff, nblt_iff, decide_eq_false_iff_not, Bool.not_eq_true', Bool.not_eq_false', beq_eq_false_iff_ne, bne_eq_false_iff_eq, Bool.true_and, Bool.and_true, inB_iff_f, inC_iff_f, nble_iff_f, Bool.or_eq_true, Bool.not_eq_true, Decidable.not_not] at *
    all_goals first | (exfalso; omega) | (rw [if_pos (by omega)]; rfl) | (rw [if_neg (by omega)]; rfl)
  | false =>
    have hb' := of_decide_eq_false hb
    try simp only [andT_t, andT_f, cond_true, cond_false, Bool.and_true, Bool.true_and, beq_self_eq_true]
    repeat' (refine bcase (fun hbc => ?_) (fun hbc => ?_))
    all_goals try simp only [decide_eq_true_eq, beq_iff_eq, bne_iff_ne, ne_eq, Bool.and_eq_true, andT_and, inB_iff, inC_iff, nble_iff, nblt_iff, decide_eq_false_iff_not, Bool.not_eq_true', Bool.not_eq_false', beq_eq_false_iff_ne, bne_eq_false_iff_eq, Bool.true_and, Bool.and_true, inB_iff_f, inC_iff_f, nble_iff_f, Bool.or_eq_true, Bool.not_eq_true, Decidable.not_not] at *
    all_goals first | rfl | (exfalso; omega)
theorem IAbout2_con : ∀ vs v, cIAbout vs = some (v, true) → SpecV Tryz.prog 41 vs v := by
  intro vs v h; unfold cIAbout at h; split at h
  · rename_i k c wd p
    injection h with h; injection h with h hb; subst h
    exact callV_ok E8b_ok af_IAbout2_ok (IAbout_v k c wd p (of_decide_eq_true hb))
  · cases h
theorem rIAbout_con : ∀ vs v, cIAbout vs = some (v, true) → SpecV Tryz.prog 45 vs v := by
  intro vs v h; unfold cIAbout at h; split at h
  · rename_i k c wd p
    injection h with h; injection h with h hb; subst h
    exact callV_ok E8b_ok af_rIAbout_ok (rIAbout_v k c wd p (of_decide_eq_true hb))
  · cases h
end Go.Proofs.YtbojofchpnfnlaaGreat

namespace Go.Proofs.YtbojofchpnfnlaaGreat
open Go Go.Am Go.RowKit Go.Mix Go.Bas
set_option maxRecDepth 100000
end Go.Proofs.YtbojofchpnfnlaaGreat
