/- Part Gi of the proof: laws used by the law of this claim. -/
import Derived.Test.YtbojofchpnfnlaaProg
import Derived.Test.YtbojofchpnfnlaaGd
import Derived.Test.YtbojofchpnfnlaaGe
import Derived.Test.YtbojofchpnfnlaaGc
import Derived.Test.YtbojofchpnfnlaaGf
set_option linter.all false
namespace Go.Proofs.Ytbojofchpnfnlaa
open Go.RowKit Go.Mix Go.Bas

def octB (n : Int) : Bool := decide (0 ≤ n ∧ n ≤ 255)
def msg0 (kd cd wd : Int) (body : List UInt8) : List UInt8 := [b8 kd, b8 cd, 0, 0] ++ four wd ++ body
def putM (src dst : List UInt8) (kd cd wd : Int) (body : List UInt8) : List UInt8 :=
  if octB kd = true ∧ octB cd = true then (msg0 kd cd wd body).take 2 ++ (two (chk src dst 58 (msg0 kd cd wd body)) ++ (msg0 kd cd wd body).drop 4) else []
theorem octB_iff {n : Int} : octB n = true ↔ 0 ≤ n ∧ n ≤ 255 := by unfold octB; exact decide_eq_true_iff
theorem octB_not {n : Int} : octB n = false ↔ ¬ (0 ≤ n ∧ n ≤ 255) := by unfold octB; exact decide_eq_false_iff_not

theorem octet_calls (n : Int) (w : World) : Calls Try.prog 151 #[.int .i64 n] w fun e w' => e = .returned (.bool (octB n)) ∧ w = w' := by
  by_cases h0 : 0 ≤ n
  · by_cases h1 : n ≤ 255
    · have HB := hid (octB_iff.2 ⟨h0, h1⟩)
      go_enter Try.func151, Try.ntmps151
      go_wp2
      go_ret
      exact ⟨by rw [HB.out]; rfl, rfl⟩
    · have HB := hid (octB_not.2 (fun h => h1 h.2))
      go_enter Try.func151, Try.ntmps151
      go_wp2
      go_ret
      exact ⟨by rw [HB.out]; rfl, rfl⟩
  · have HB := hid (octB_not.2 (fun h => h0 h.1))
    go_enter Try.func151, Try.ntmps151
    go_wp2
    go_ret
    exact ⟨by rw [HB.out]; rfl, rfl⟩

set_option maxRecDepth 8000 in
set_option maxHeartbeats 1000000 in
theorem IPut_calls (src dst : List UInt8) (kd cd wd : Int) (A : Option Addr) (n c : Nat) (body : List UInt8) (w : World) (hs : src.length = 16) (hd : dst.length = 16) (h : Bs w A n c body) (hsz : n ≤ 140737488351232) (hw0 : 0 ≤ wd) (hw1 : wd < 4294967296) :
    Calls Try.prog 109 #[av src, av dst, .agg #[.int .i64 kd, .int .i64 cd, .int .u32 wd, .slice A n c]] w fun e w' => ∃ A' n' c', e = .returned (.slice A' n' c') ∧ Own w' w.heap.size 5 A' n' c' (putM src dst kd cd wd body) ∧ Below w.heap.size w w' := by
  obtain ⟨i0, hi, hz0, hz1, hz2⟩ := info_parts Try.infob
  unfold av
  have HH := hid h
  have HS := hid hs
  have HD := hid hd
  have HW1 := hid hw1
  clear h hs hd hw1
  by_cases k0 : octB kd = true
  · by_cases k1 : octB cd = true
    · have hput : putM src dst kd cd wd body = (msg0 kd cd wd body).take 2 ++ (two (chk src dst 58 (msg0 kd cd wd body)) ++ (msg0 kd cd wd body).drop 4) := if_pos ⟨k0, k1⟩
      have HP := hid hput
      have r0 := octB_iff.1 k0
      have r1 := octB_iff.1 k1
      obtain ⟨r00, r01⟩ := r0
      obtain ⟨r10, r11⟩ := r1
      have K0 := hid k0
      have K1 := hid k1
      clear hput k0 k1
      go_enter Try.func109, Try.ntmps109
      go_wp2_with fail
      refine (octet_calls _ _).mono ?_; rintro e w' ⟨rfl, rfl⟩
      rw [K0.out]
      go_wp2_with fail
      refine (octet_calls _ _).mono ?_; rintro e w' ⟨rfl, rfl⟩
      rw [K1.out]
      go_wp2_with fail
      refine calls_name ?_; intro w4 hw4
      have hS : Blk w4 w.heap.size 39 (src.map bv) := by rw [hw4]; exact (((Blk.new _ _ _).alloc _).alloc _).alloc _
      have hD : Blk w4 (w.heap.size + 1) 39 (dst.map bv) := by rw [hw4]; exact ((Blk.new_at _ _ _ (by simp)).alloc _).alloc _
      have hM : Blk w4 (w.heap.size + 1 + 1) 64 [.int .i64 kd, .int .i64 cd, .int .u32 wd, .slice A n c] := by rw [hw4]; exact (Blk.new_at _ _ _ (by simp)).alloc _
      have ho4 : Own w4 w.heap.size 5 (some ⟨w.heap.size + 1 + 1 + 1, 0, none⟩) 4 4 [b8 kd, b8 cd, 0, 0] := by
        rw [hw4]; exact Own.made_at _ _ _ _ (by simp) rfl (by simp [bv_b8]; exact ⟨by omega, by omega, rfl⟩) (by simp) (by simp; omega)
      have hb4 : Below w.heap.size w w4 := by rw [hw4]; exact ((((Below.refl _ _).alloc (Nat.le_refl _) _).alloc (by simp) _).alloc (by simp; omega) _).alloc (by simp; omega) _
      have hx4 := hb4.size
      clear hw4
      refine (Put32_calls w.heap.size _ _ _ _ _ _ ho4 hx4 (by omega) hw0 HW1.out).mono ?_; rintro e w5 ⟨A5, n5, c5, rfl, ho5, hg5⟩
      have hS5 := hS.grown hg5 (ho4.apart hS (by decide))
      have hD5 := hD.grown hg5 (ho4.apart hD (by decide))
      have hM5 := hM.grown hg5 (ho4.apart hM (by decide))
      have hb5 := hb4.trans (below_grown hg5 ho4 (Nat.le_refl _) hx4)
      have hn5 : n5 = 8 := by have := ho5.len; simpa [four] using this
      subst hn5
      have c3 := hM5.cell (j := 3) rfl
      have hx5 := hb5.size
      have HS5 := hid hS5
      have HD5 := hid hD5
      have HB5 := hid hb5
      clear hS hD hM ho4 hb4 hg5 hS5 hD5 hM5 hb5 hx4
      go_wp2_with (at_builtin; refine stop ?_)
      refine Stop.on (wpList_app rfl _ _ 24 rfl 5 i0 Try.underlying24 hi hz0 hz1 hz2 w.heap.size _ _ rfl rfl ho5 (HH.out.step HB5.out) (by omega) hx5 ?_)
      intro A6 n6 c6 w6 ho6 hg6
      have hS6 := HS5.out.grown hg6 (ho5.apart HS5.out (by decide))
      have hD6 := HD5.out.grown hg6 (ho5.apart HD5.out (by decide))
      have hb6 := HB5.out.trans (below_grown hg6 ho5 (Nat.le_refl _) hx5)
      have hn6 : n6 ≤ 140737488351240 := by have := ho6.len_app ho5; have e := HH.out.len; omega
      have hi16 : (Try.prog.info? 39).map (·.size) = some 16 := by kernel_rfl
      have HLS := hid (hS6.ld_all (P := Try.prog) Try.underlying39 rfl (by rw [List.length_map, HS.out]; exact hi16))
      have HLD := hid (hD6.ld_all (P := Try.prog) Try.underlying39 rfl (by rw [List.length_map, HD.out]; exact hi16))
      have HB6 := hid hb6
      have HO6 : Hid (Own w6 w.heap.size 5 A6 n6 c6 (msg0 kd cd wd body)) := hid ho6
      clear hg6 ho5 c3 HS5 HD5 HB5 hS6 hD6 hb6 hi16 ho6
      go_wp2_with (with_reducible refine wpList_ld rfl (.agg (src.map bv).toArray) 39 (.tmp 3) (.pointer (some ⟨w.heap.size, 0, none⟩)) rfl rfl (HLS.out) ?_; refine stop ?_)
      refine Stop.on ?_
      go_wp2_with (with_reducible refine wpList_ld rfl (.agg (dst.map bv).toArray) 39 (.tmp 4) (.pointer (some ⟨w.heap.size + 1, 0, none⟩)) rfl rfl (HLD.out) ?_; refine stop ?_)
      refine Stop.on ?_
      go_wp2_with fail
      refine (Check_calls src dst 58 A6 n6 c6 (msg0 kd cd wd body) _ HS.out HD.out HO6.out.bs (by omega)).mono ?_; rintro e w7 ⟨rfl, hb7⟩
      have HB7 := hid (below_next HB6.out hb7)
      have HO7 := hid (HO6.out.step hb7)
      clear hb7 HLS HLD HB6 HO6
      go_wp2_with fail
      refine (Set16_calls A6 n6 c6 (msg0 kd cd wd body) 2 _ _ HO7.out.bs (by omega)).mono ?_; rintro e w8 ⟨A8, n8, c8, rfl, ho8, hb8⟩
      have hset : set16 (msg0 kd cd wd body) 2 (chk src dst 58 (msg0 kd cd wd body)) = (putM src dst kd cd wd body, true) := by
        rw [HP.out]; unfold set16; rw [if_pos ⟨by omega, by simp [msg0, four]; omega⟩]; rfl
      rw [hset] at ho8
      rw [hset]
      have hb8' := below_next HB7.out hb8
      have hx7 := HB7.out.size
      clear hset hb8 HO7 HB7
      go_wp2
      go_ret
      exact ⟨_, _, _, rfl, ho8.mono hx7, hb8'⟩
    · have k1' : octB cd = false := by simpa using k1
      have hput : putM src dst kd cd wd body = [] := if_neg (fun h => k1 h.2)
      have HP := hid hput
      have K0 := hid k0
      have K1 := hid k1'
      clear hput k0 k1 k1'
      go_enter Try.func109, Try.ntmps109
      go_wp2_with fail
      refine (octet_calls _ _).mono ?_; rintro e w' ⟨rfl, rfl⟩
      rw [K0.out]
      go_wp2_with fail
      refine (octet_calls _ _).mono ?_; rintro e w' ⟨rfl, rfl⟩
      rw [K1.out]
      go_wp2
      go_ret
      exact ⟨_, _, _, rfl, by rw [HP.out]; exact Own.nil _ _ _, (((Below.refl _ _).alloc (Nat.le_refl _) _).alloc (by simp) _).alloc (by simp; omega) _⟩
  · have k0' : octB kd = false := by simpa using k0
    have hput : putM src dst kd cd wd body = [] := if_neg (fun h => k0 h.1)
    have HP := hid hput
    have K0 := hid k0'
    clear hput k0 k0'
    go_enter Try.func109, Try.ntmps109
    go_wp2_with fail
    refine (octet_calls _ _).mono ?_; rintro e w' ⟨rfl, rfl⟩
    rw [K0.out]
    go_wp2
    go_ret
    exact ⟨_, _, _, rfl, by rw [HP.out]; exact Own.nil _ _ _, (((Below.refl _ _).alloc (Nat.le_refl _) _).alloc (by simp) _).alloc (by simp; omega) _⟩
end Go.Proofs.Ytbojofchpnfnlaa

namespace Go.Proofs.Ytbojofchpnfnlaa
open Go.RowKit Go.Mix Go.Bas

theorem set_two {l : List UInt8} {c : Int} (h : 4 ≤ l.length) : (l.set 2 (b8 (c / 256))).set 3 (b8 c) = l.take 2 ++ (two c ++ l.drop 4) := by
  match l, h with
  | a :: b :: x :: y :: r, _ => rfl

set_option maxRecDepth 8000 in
set_option maxHeartbeats 2000000 in
theorem rIPut_calls (src dst : List UInt8) (kd cd wd : Int) (A : Option Addr) (n c : Nat) (body : List UInt8) (w : World) (hs : src.length = 16) (hd : dst.length = 16) (h : Bs w A n c body) (hsz : n ≤ 140737488351232) (hw0 : 0 ≤ wd) (hw1 : wd < 4294967296) :
    Calls Try.prog 110 #[av src, av dst, .agg #[.int .i64 kd, .int .i64 cd, .int .u32 wd, .slice A n c]] w fun e w' => ∃ A' n' c', e = .returned (.slice A' n' c') ∧ Own w' w.heap.size 5 A' n' c' (putM src dst kd cd wd body) ∧ Below w.heap.size w w' := by
  obtain ⟨i0, hi, hz0, hz1, hz2⟩ := info_parts Try.infob
  unfold av
  have HH := hid h
  have HS := hid hs
  have HD := hid hd
  have HW1 := hid hw1
  clear h hs hd hw1
  by_cases r0 : 0 ≤ kd ∧ kd ≤ 255
  · obtain ⟨r00, r01⟩ := r0
    by_cases r1 : 0 ≤ cd ∧ cd ≤ 255
    · obtain ⟨r10, r11⟩ := r1
      have HP : Hid (putM src dst kd cd wd body = (msg0 kd cd wd body).take 2 ++ (two (chk src dst 58 (msg0 kd cd wd body)) ++ (msg0 kd cd wd body).drop 4)) := hid (if_pos ⟨octB_iff.2 ⟨r00, r01⟩, octB_iff.2 ⟨r10, r11⟩⟩)
      have d0 : decide (kd < 0) = false := by simp; omega
      have d1 : decide (255 < kd) = false := by simp; omega
      have d2 : decide (cd < 0) = false := by simp; omega
      have d3 : decide (255 < cd) = false := by simp; omega
      go_enter Try.func110, Try.ntmps110
      go_wp2_with fail
      refine wp_name ?_; intro w3 hw3
      have hS : Blk w3 w.heap.size 39 (src.map bv) := by rw [hw3]; exact ((Blk.new _ _ _).alloc _).alloc _
      have hD : Blk w3 (w.heap.size + 1) 39 (dst.map bv) := by rw [hw3]; exact (Blk.new_at _ _ _ (by simp)).alloc _
      have hM : Blk w3 (w.heap.size + 1 + 1) 64 [.int .i64 kd, .int .i64 cd, .int .u32 wd, .slice A n c] := by rw [hw3]; exact Blk.new_at _ _ _ (by simp)
      have hb3 : Below w.heap.size w w3 := by rw [hw3]; exact (((Below.refl _ _).alloc (Nat.le_refl _) _).alloc (by simp) _).alloc (by simp; omega) _
      have hx3 := hb3.size
      have hlM := hM.lt
      clear hw3
      have hne : Nonempty (SBW w3.heap.size w3) := Cls.ne (SB.refl (Nat.le_refl _))
      have f0 : ∀ u : SBW w3.heap.size w3, u.w.cell? ⟨w.heap.size + 1 + 1, 0, none⟩ = some (.int .i64 kd) := fun u => u.cell (hM.cell (j := 0) rfl) hlM
      have f1 : ∀ u : SBW w3.heap.size w3, u.w.cell? ⟨w.heap.size + 1 + 1, 1, none⟩ = some (.int .i64 cd) := fun u => u.cell (hM.cell (j := 1) rfl) hlM
      have f2 : ∀ u : SBW w3.heap.size w3, u.w.cell? ⟨w.heap.size + 1 + 1, 2, none⟩ = some (.int .u32 wd) := fun u => u.cell (hM.cell (j := 2) rfl) hlM
      have hq := SB.start (w0 := w3) (Nat.le_refl _)
      have HS3 := hid hS
      have HD3 := hid hD
      have HM3 := hid hM
      have HB3 := hid hb3
      clear hS hD hM hb3
      refine wp_region_segs (fun wq => ∃ u : SBW (w3.heap.size) (w3), wq = u.w) ((0, 0) :: (1, 0) :: (2, 0) :: (3, 0) :: (4, 0) :: (5, 0) :: (7, 0) :: (8, 0) :: (6, 2) :: (9, 2) :: (10, 1) :: (11, 0) :: []) (by kernel_rfl) (by kernel_rfl) (by kernel_rfl) (by kernel_rfl) (inC hq) ?_
      refine seg_held _ rfl ?_; go_big_quiet_step (fail); refine wpQuiet_nil ?_ -- 0 fieldAddr
      refine seg_held _ rfl ?_; go_big_quiet_step (fail); refine wpQuiet_nil ?_ -- 1 load
      refine seg_held _ rfl ?_; go_big_quiet_step (fail); refine wpQuiet_nil ?_ -- 2 convert
      refine seg_held _ rfl ?_; go_big_quiet_step (fail); refine wpQuiet_nil ?_ -- 3 fieldAddr
      refine seg_held _ rfl ?_; go_big_quiet_step (fail); refine wpQuiet_nil ?_ -- 4 load
      refine seg_held _ rfl ?_; go_big_quiet_step (fail); refine wpQuiet_nil ?_ -- 5 convert
      refine seg_held _ rfl ?_; go_big_quiet_step (fail); refine wpQuiet_nil ?_ -- 7 fieldAddr
      refine seg_held _ rfl ?_; go_big_quiet_step (fail); refine wpQuiet_nil ?_ -- 8 load
      refine seg_fork _ _ (fun a w2 => ∃ (A5 : Option Addr) (n5 c5 g : Nat), a = { tmps := #[.agg (List.map bv src).toArray, .agg (List.map bv dst).toArray, .agg #[.int .i64 kd, .int .i64 cd, .int .u32 wd, .slice A n c], .pointer (some ⟨w.heap.size, 0, none⟩), .pointer (some ⟨w.heap.size + 1, 0, none⟩), .pointer (some ⟨w.heap.size + 1 + 1, 0, none⟩), .slice none 0 0, undef, undef, .pointer (some ⟨w.heap.size + 1 + 1, 0, none⟩), .int .i64 kd, .bool false, .bool false, .pointer (some ⟨w.heap.size + 1 + 1, 0, none⟩), .int .i64 kd, .bool false, .bool false, .bool false, .pointer (some ⟨w.heap.size + 1 + 1, 1, none⟩), .int .i64 cd, .bool false, .bool false, .bool false, .pointer (some ⟨w.heap.size + 1 + 1, 1, none⟩), .int .i64 cd, .bool false, .bool false, .pointer (some ⟨w.heap.size + 1 + 1, 0, none⟩), .int .i64 kd, .int .u8 kd, .pointer (some ⟨w.heap.size + 1 + 1, 1, none⟩), .int .i64 cd, .int .u8 cd, .slice (some ⟨g, 0, none⟩) 4 4, .pointer (some ⟨w.heap.size + 1 + 1, 2, none⟩), .int .u32 wd, .slice A5 n5 c5, undef, undef, undef, undef, undef, undef, undef, undef, undef, undef, undef, undef, undef, undef, undef, undef, undef, undef, undef, undef, undef], defers := [] } ∧ Own w2 w3.heap.size 5 (some ⟨g, 0, none⟩) 4 4 [b8 kd, b8 cd, 0, 0] ∧ Own w2 w3.heap.size 5 A5 n5 c5 (four wd) ∧ SB w3.heap.size w3 w2) rfl rfl rfl rfl ?_ ?_ ?_
      · intro K hK
        go_wp2_with fail
        have hoA := (Own.made_at (base := w3.heap.size) (g := w3.heap.size) (m := 4) w3 5 [b8 kd, b8 cd, 0, 0] #[.int .u8 kd, .int .u8 cd, .int .u8 0, .int .u8 0] rfl rfl (by simp [bv_b8]; exact ⟨by omega, by omega, rfl⟩) (by simp) (Nat.le_refl _)).drew
        have hq4 : SB w3.heap.size w3 (w3.alloc (.cells #[.int .u8 kd, .int .u8 cd, .int .u8 0, .int .u8 0] 5)).drew := ((SB.refl (Nat.le_refl _)).alloc _).drew
        refine ⟨inC hq4, fun K' hK' => ?_⟩
        go_wp2_with fail
        refine (Four_calls _ _ hw0 HW1.out).mono ?_; rintro e w5 ⟨A5, n5, c5, rfl, ho5, hb5⟩
        have hq5 := hq4.step hb5
        have hoA5 := hoA.step hb5
        have ho5' := ho5.mono hq4.2
        clear hb5 hoA hq4 ho5
        go_wp2_with fail
        first | exact hK' _ _ ⟨A5, n5, c5, w3.heap.size, rfl, hoA5, ho5', hq5⟩ | exact hK' _ _ A5 n5 c5 _ rfl hoA5 ho5' hq5 | exact hK' _ _ A5 n5 c5 _ ⟨rfl, hoA5, ho5', hq5⟩ | exact ⟨A5, n5, c5, w3.heap.size, rfl, hoA5, ho5', hq5⟩
      · intro K hK
        go_wp2_with fail
        refine (Four_calls _ _ hw0 HW1.out).mono ?_; rintro e w5 ⟨A5, n5, c5, rfl, ho5, hb5⟩
        have hq5 := hq.step hb5
        have ho5' : Own w5 w3.heap.size 5 A5 n5 c5 (four wd) := ho5
        clear hb5
        go_wp2_with fail
        refine ⟨inC hq5, fun K' hK' => ?_⟩
        go_wp2_with fail
        have hoA := Own.made_at (base := w3.heap.size) (g := w5.heap.size) (m := 4) w5 5 [b8 kd, b8 cd, 0, 0] #[.int .u8 kd, .int .u8 cd, .int .u8 0, .int .u8 0] rfl rfl (by simp [bv_b8]; exact ⟨by omega, by omega, rfl⟩) (by simp) hq5.2
        have ho6 := ho5'.alloc (.cells #[.int .u8 kd, .int .u8 cd, .int .u8 0, .int .u8 0] 5)
        have hq6 := hq5.alloc (.cells #[.int .u8 kd, .int .u8 cd, .int .u8 0, .int .u8 0] 5)
        first | exact hK' _ _ ⟨A5, n5, c5, w5.heap.size, rfl, hoA, ho6, hq6⟩ | exact hK' _ _ A5 n5 c5 _ rfl hoA ho6 hq6 | exact hK' _ _ A5 n5 c5 _ ⟨rfl, hoA, ho6, hq6⟩ | exact ⟨A5, n5, c5, w5.heap.size, rfl, hoA, ho6, hq6⟩
      rintro _ w5 ⟨A5, n5, c5, g0, rfl, hoA5, ho5, hq5⟩
      refine ⟨_, fun _ h => h, inC hq5, ?_⟩
      have hn5 : n5 = 4 := ho5.len
      subst hn5
      refine seg_loud _ rfl rfl ?_; intro K hK -- 10 builtin:append
      refine wp_app (.tmp 33) (.tmp 36) 24 rfl 5 i0 Try.underlying24 hi hz0 hz1 hz2 w3.heap.size _ _ rfl rfl hoA5 ho5.bs (by omega) hq5.2 (fun A6 n6 c6 w6 ho6 hg6 => hK _ _ ?_)
      have hb6 := below_grown hg6 hoA5 (Nat.le_refl _) hq5.2
      have hq6 := hq5.low hb6
      refine ⟨_, fun _ h => h, inC hq6, ?_⟩
      go_frame
      refine seg_held _ rfl ?_; go_big_quiet_step (fail); refine wpQuiet_nil ?_ -- 11 assign
      refine seg_nil ?_
      have hM6 := HM3.out.below hlM hq6.1
      have c3 := hM6.cell (j := 3) rfl
      have hn6 : n6 = 8 := by have := ho6.len; simpa [four] using this
      subst hn6
      have HS6 := hid (HS3.out.below HS3.out.lt hq6.1)
      have HD6 := hid (HD3.out.below HD3.out.lt hq6.1)
      have HB6 := hid (HB3.out.trans (hq6.1.mono hx3))
      have hx6 := hq6.2
      clear hne f0 f1 f2 hq5 hoA5 hg6 hb6 ho5 hM6 HS3 HD3 HM3 HB3
      go_wp2_with (at_builtin; refine stop ?_)
      refine Stop.on (wpList_app rfl _ _ 24 rfl 5 i0 Try.underlying24 hi hz0 hz1 hz2 w3.heap.size _ _ rfl rfl ho6 (HH.out.step HB6.out) (by omega) hx6 ?_)
      intro A7 n7 c7 w7 ho7 hg7
      have hb7 := below_grown hg7 ho6 (Nat.le_refl _) hx6
      have hS7 := HS6.out.grown hg7 (ho6.apart HS6.out (by decide))
      have hD7 := HD6.out.grown hg7 (ho6.apart HD6.out (by decide))
      have hn7 : n7 ≤ 140737488351240 := by have := ho7.len_app ho6; have e := HH.out.len; omega
      have hn7' : 8 ≤ n7 := by have := ho7.len_app ho6; omega
      have hi16 : (Try.prog.info? 39).map (·.size) = some 16 := by kernel_rfl
      have HLS := hid (hS7.ld_all (P := Try.prog) Try.underlying39 rfl (by rw [List.length_map, HS.out]; exact hi16))
      have HLD := hid (hD7.ld_all (P := Try.prog) Try.underlying39 rfl (by rw [List.length_map, HD.out]; exact hi16))
      have HB7 := hid (HB6.out.trans (hb7.mono hx3))
      have HO7 : Hid (Own w7 w3.heap.size 5 A7 n7 c7 (msg0 kd cd wd body)) := hid ho7
      clear hg7 ho6 c3 HS6 HD6 HB6 hS7 hD7 hb7 hi16 ho7
      go_wp2_with (with_reducible refine wpList_ld rfl (.agg (src.map bv).toArray) 39 (.tmp 3) (.pointer (some ⟨w.heap.size, 0, none⟩)) rfl rfl (HLS.out) ?_; refine stop ?_)
      refine Stop.on ?_
      go_wp2_with (with_reducible refine wpList_ld rfl (.agg (dst.map bv).toArray) 39 (.tmp 4) (.pointer (some ⟨w.heap.size + 1, 0, none⟩)) rfl rfl (HLD.out) ?_; refine stop ?_)
      refine Stop.on ?_
      go_wp2_with fail
      refine (rCheck_calls src dst 58 A7 n7 c7 (msg0 kd cd wd body) _ HS.out HD.out HO7.out.bs (by omega)).mono ?_; rintro e w8 ⟨rfl, hb8⟩
      have HB8 := hid (below_next HB7.out hb8)
      have HO8 := hid (HO7.out.step hb8)
      clear hb8 HLS HLD HB7 HO7
      generalize hck : chk src dst 58 (msg0 kd cd wd body) = ck at *
      go_wp2_with fail
      refine (Two_calls _ _).mono ?_; rintro e w9 ⟨A9, n9, c9, rfl, ho9, hb9⟩
      have hn9 : n9 = 2 := ho9.len
      subst hn9
      obtain ⟨g, rfl, hg0, hg1⟩ := HO8.out.at_ (by omega)
      obtain ⟨g9, rfl, hg90, hg91⟩ := ho9.at_ (by omega)
      have ho8 := HO8.out.step hb9
      have HB9 := hid (below_next HB8.out hb9)
      have t0 := ho9.cell (j := 0) (by omega)
      have t1 := ho9.cell (j := 1) (by omega)
      have e0 : gt (two ck) 0 = ck / 256 % 256 := b8_toNat _
      have e1 : gt (two ck) 1 = ck % 256 := b8_toNat _
      rw [e0] at t0
      rw [e1] at t1
      have hz2' := ho8.cell (j := 2) (by omega)
      have hz3' := ho8.cell (j := 3) (by omega)
      have hf2 := ho8.free (j := 2)
      have hf3 := ho8.free (j := 3)
      have hx9 := HB9.out.size
      have hb9s := hb9.size
      have HO9 := hid ho8
      have hgs : g < w8.heap.size := hg1

      have HO99 := hid ho9
      clear ho8 hb9 HO8 HB8 hck e0 e1 t0 t1 ho9
      go_wp2_with fail
      have hne : Nonempty (Cls (fun wx : World => Own wx w8.heap.size 5 (some ⟨g9, 0, none⟩) 2 c9 (two ck))) := Cls.ne HO99.out
      have e0 : gt (two ck) 0 = ck / 256 % 256 := b8_toNat _
      have e1 : gt (two ck) 1 = ck % 256 := b8_toNat _
      have f0 : ∀ u : Cls (fun wx : World => Own wx w8.heap.size 5 (some ⟨g9, 0, none⟩) 2 c9 (two ck)), u.w.cell? ⟨g9, 0, none⟩ = some (.int .u8 (ck / 256 % 256)) := fun u => by rw [← e0]; exact Own.cell (j := 0) u.is (by omega)
      have f1 : ∀ u : Cls (fun wx : World => Own wx w8.heap.size 5 (some ⟨g9, 0, none⟩) 2 c9 (two ck)), u.w.cell? ⟨g9, 1, none⟩ = some (.int .u8 (ck % 256)) := fun u => by rw [← e1]; exact Own.cell (j := 1) u.is (by omega)
      clear e0 e1
      refine wp_region_segs (fun wq => ∃ u : Cls (fun wx : World => Own wx w8.heap.size 5 (some ⟨g9, 0, none⟩) 2 c9 (two ck)), wq = u.w) ((0, 0) :: (1, 0) :: (2, 0) :: (3, 0) :: (4, 0) :: (5, 0) :: (6, 0) :: (7, 0) :: (8, 0) :: (9, 1) :: (10, 0) :: (11, 1) :: []) (by kernel_rfl) (by kernel_rfl) (by kernel_rfl) (by kernel_rfl) (inC HO99.out.drew) ?_
      refine seg_held _ rfl ?_; go_big_quiet_step (fail); refine wpQuiet_nil ?_ -- 0 move
      refine seg_held _ rfl ?_; go_big_quiet_step (fail); refine wpQuiet_nil ?_ -- 1 move
      refine seg_held _ rfl ?_; go_big_quiet_step (fail); refine wpQuiet_nil ?_ -- 2 move
      refine seg_held _ rfl ?_; go_big_quiet_step (fail); refine wpQuiet_nil ?_ -- 3 indexAddr
      refine seg_held _ rfl ?_; go_big_quiet_step (fail); refine wpQuiet_nil ?_ -- 4 load
      refine seg_held _ rfl ?_; go_big_quiet_step (fail); refine wpQuiet_nil ?_ -- 5 move
      refine seg_held _ rfl ?_; go_big_quiet_step (fail); refine wpQuiet_nil ?_ -- 6 indexAddr
      refine seg_held _ rfl ?_; go_big_quiet_step (fail); refine wpQuiet_nil ?_ -- 7 load
      refine seg_held _ rfl ?_; go_big_quiet_step (fail); refine wpQuiet_nil ?_ -- 8 indexAddr
      refine seg_loud _ rfl rfl ?_; intro K hK -- 9 store
      go_wp2_with fail
      refine ⟨_, fun _ h => h, inC (Own.drew (HO99.out.far (p := ⟨g, 2, none⟩) hgs _)), ?_⟩
      refine seg_held _ rfl ?_; go_big_quiet_step (fail); refine wpQuiet_nil ?_ -- 10 indexAddr
      refine seg_loud _ rfl rfl ?_; intro K hK -- 11 store
      go_wp2_with fail
      refine ⟨_, fun _ h => h, inC (Own.drew ((HO99.out.far (p := ⟨g, 2, none⟩) hgs _).far (p := ⟨g, 3, none⟩) hgs _)), ?_⟩
      refine seg_name ?_; intro w10 hw10
      have hl4 : 4 ≤ (msg0 kd cd wd body).length := by simp [msg0]
      have ho10 : Own w10 w3.heap.size 5 (some ⟨g, 0, none⟩) n7 c7 (putM src dst kd cd wd body) := by
        have := (HO9.out.store (j := 2) (b8 (ck / 256))).store (j := 3) (b8 ck)
        rw [set_two hl4, bv_b8, bv_b8] at this
        rw [HP.out, hw10]
        exact this.drew
      have hb10 : Below w.heap.size w w10 := by rw [hw10]; exact ((HB9.out.setCell (by show w.heap.size ≤ g; omega) _).setCell (by show w.heap.size ≤ g; omega) _).drew
      have HO10 := hid ho10
      have HB10 := hid hb10
      clear hne f0 f1 hw10 ho10 hb10 HO9 HB9 HO99 hz2' hz3' hf2 hf3
      go_wp2
      go_ret
      exact ⟨_, _, _, rfl, HO10.out.mono hx3, HB10.out⟩
    · have HP : Hid (putM src dst kd cd wd body = []) := hid (if_neg (fun h => r1 (octB_iff.1 h.2)))
      have d0 : decide (kd < 0) = false := by simp; omega
      have d1 : decide (255 < kd) = false := by simp; omega
      rcases (show cd < 0 ∨ 255 < cd by omega) with k | k
      all_goals
        clear r1
        go_enter Try.func110, Try.ntmps110
        go_wp2
        go_ret
        exact ⟨_, _, _, rfl, by rw [HP.out]; exact Own.nil _ _ _, (((Below.refl _ _).alloc (Nat.le_refl _) _).alloc (by simp) _).alloc (by simp; omega) _⟩
  · have HP : Hid (putM src dst kd cd wd body = []) := hid (if_neg (fun h => r0 (octB_iff.1 h.1)))
    rcases (show kd < 0 ∨ 255 < kd by omega) with k | k
    all_goals
      clear r0
      go_enter Try.func110, Try.ntmps110
      go_wp2
      go_ret
      exact ⟨_, _, _, rfl, by rw [HP.out]; exact Own.nil _ _ _, (((Below.refl _ _).alloc (Nat.le_refl _) _).alloc (by simp) _).alloc (by simp; omega) _⟩
end Go.Proofs.Ytbojofchpnfnlaa

namespace Go.Proofs.Ytbojofchpnfnlaa
open Go Go.Am Go.RowKit Go.Mix Go.Bas
section
set_option maxRecDepth 100000
end
end Go.Proofs.Ytbojofchpnfnlaa

namespace Go.Proofs.Ytbojofchpnfnlaa
open Go Go.Am Go.RowKit Go.Mix Go.Bas

theorem msg_inv {O : Nat → Prop} {w : World} {kd cd wd : Int} {body : List UInt8} {c : Value} (h : VRep no O w (.agg [.int .i64 kd, .int .i64 cd, .int .u32 wd, .bytes body]) c) :
    ∃ A n k, c = .agg #[.int .i64 kd, .int .i64 cd, .int .u32 wd, .slice A n k] ∧ Bs w A n k body := by
  obtain ⟨cs, rfl, hc⟩ := h.agg_inv rfl
  cases hc with
  | agg h1 =>
    cases h1 with
    | cons a h1 =>
      cases a
      cases h1 with
      | cons a h1 =>
        cases a
        cases h1 with
        | cons a h1 =>
          cases a
          cases h1 with
          | cons a h1 =>
            cases h1
            cases a with
            | bytes hb _ => exact ⟨_, _, _, rfl, hb⟩
def cPut : List V → Option (V × Bool)
  | [.barr 16 s, .barr 16 d, .agg [.int .i64 kd, .int .i64 cd, .int .u32 wd, .bytes body]] => some (.ownv 5 (.bytes (putM s d kd cd wd body)), decide (body.length ≤ 140737488351232 ∧ 0 ≤ wd ∧ wd < 4294967296))
  | _ => none
theorem IPut_con : ∀ vs v, cPut vs = some (v, true) → SpecV Try.prog 109 vs v := by
  intro vs v h; unfold cPut at h; split at h
  · injection h with h; injection h with h hb; subst h
    have hb := of_decide_eq_true hb
    intro O w cs hO hv
    obtain ⟨a, b, c, rfl, ha, hb', hc⟩ := hv.three_inv
    obtain ⟨rfl, h1⟩ := ha.barr_inv
    obtain ⟨rfl, h2⟩ := hb'.barr_inv
    obtain ⟨A, n, k, rfl, hA⟩ := msg_inv hc
    exact kOwn (IPut_calls _ _ _ _ _ _ _ _ _ _ h1 h2 hA (by have := hA.len; omega) hb.2.1 hb.2.2)
  · cases h
theorem rIPut_con : ∀ vs v, cPut vs = some (v, true) → SpecV Try.prog 110 vs v := by
  intro vs v h; unfold cPut at h; split at h
  · injection h with h; injection h with h hb; subst h
    have hb := of_decide_eq_true hb
    intro O w cs hO hv
    obtain ⟨a, b, c, rfl, ha, hb', hc⟩ := hv.three_inv
    obtain ⟨rfl, h1⟩ := ha.barr_inv
    obtain ⟨rfl, h2⟩ := hb'.barr_inv
    obtain ⟨A, n, k, rfl, hA⟩ := msg_inv hc
    exact kOwn (rIPut_calls _ _ _ _ _ _ _ _ _ _ h1 h2 hA (by have := hA.len; omega) hb.2.1 hb.2.2)
  · cases h
end Go.Proofs.Ytbojofchpnfnlaa

namespace Go.Proofs.Ytbojofchpnfnlaa
open Go Go.Am Go.RowKit Go.Mix Go.Bas
def parI (e x : Int) : Int := if e = 0 then x else 0
def parA (e : Int) (l : List UInt8) : List UInt8 := if e = 0 then l else List.replicate 16 0
def geE (b : List UInt8) : Int := if b.length < 40 then 3 else if gt b 0 / 16 = 6 then 0 else 5
def hC (b : List UInt8) : Int := parI (geE b) (gt b 0 % 16 * 16 + gt b 1 / 16)
def hS (b : List UInt8) : List UInt8 := parA (geE b) (cutL b 8 24)
def hD (b : List UInt8) : List UInt8 := parA (geE b) (cutL b 24 40)
set_option maxRecDepth 100000
end Go.Proofs.Ytbojofchpnfnlaa

namespace Go.Proofs.Ytbojofchpnfnlaa
open Go Go.Am Go.RowKit Go.Mix Go.Bas
set_option maxRecDepth 100000
noncomputable def af_IParse : AF := afOf Try.prog Try.f214 []
theorem af_IParse_ok : AllOk Try.prog 214 af_IParse := .flat Try.func214 (by kernel_rfl) (by kernel_rfl) (by kernel_rfl) (by kernel_rfl) (by kernel_rfl)
noncomputable def GE8b : List (Nat × Con) := [(70, .val [.bytes, .int .i64] cU32), (76, .val [.barr 16, .barr 16, .int .i64, .bytes] cFine), (69, .val [.bytes] cClone)]

theorem GE8b_ok : GOk Try.prog GE8b := .cons (enters_of Try.func70 (by kernel_rfl) rfl) U32_con <| .cons (enters_of Try.func76 (by kernel_rfl) rfl) Fine_con <| .cons (enters_of Try.func69 (by kernel_rfl) rfl) Clone_con <| .nil

noncomputable def IE8b : List (Nat × AF) := []

theorem IE8b_ok : IOk Try.prog IE8b := .nil

noncomputable def CE8b : List (Nat × (List Nat × (S → Option S))) := []
theorem CE8b_ok : COk Try.prog CE8b := .nil
noncomputable def XE8b : List (Nat × (List Sh × (List V → PT))) := []
theorem XE8b_ok : XOk Try.prog XE8b := .nil
noncomputable def E8b : Env := ⟨Try.prog, GE8b, IE8b, CE8b, XE8b⟩
theorem E8b_ok : EnvOk E8b := ⟨by kernel_rfl, GE8b_ok, IE8b_ok, CE8b_ok, XE8b_ok⟩
def ipE (s d b : List UInt8) : Int := if b.length < 8 then 3 else if both s d 58 b = 65535 then 0 else 6
def parL (e : Int) (l : List UInt8) : List UInt8 := if e = 0 then l else []
def ipV (s d b : List UInt8) : V := .tup [.agg [.int .i64 (parI (ipE s d b) (gt b 0)), .int .i64 (parI (ipE s d b) (gt b 1)), .int .u32 (parI (ipE s d b) (be32 b 4)), .bytes (parL (ipE s d b) (b.drop 8))], .int .i64 (ipE s d b)]
def cIParse : List V → Option (V × Bool)
  | [.barr 16 s, .barr 16 d, .bytes b] => some (ipV s d b, decide (b.length ≤ 1048576))
  | _ => none
theorem IParse_t (s d b : List UInt8) : callV E8b af_IParse [.barr 16 s, .barr 16 d, .bytes b] =
 bif decide ((↑b.length : Int) < (8 : Int)) then
 some
 (V.tup
 [V.agg [V.int IntKind.i64 (0 : Int), V.int IntKind.i64 (0 : Int), V.int IntKind.u32 (0 : Int), V.bytes []],
 V.int IntKind.i64 (3 : Int)])
 else
 bif andT true (decide (b.length ≤ (140737488355327 : Nat))) then
 bif !both s d (58 : Int) b == (65535 : Int) then
 some
 (V.tup
 [V.agg [V.int IntKind.i64 (0 : Int), V.int IntKind.i64 (0 : Int), V.int IntKind.u32 (0 : Int), V.bytes []],
 V.int IntKind.i64 (6 : Int)])
 else
 bif
 andT (andT (andT (andT true (inB (0 : Int) b.length)) (inB (1 : Int) b.length)) (Am.inC (8 : Int) b.length))
 (decide ((cutL b (8 : Nat) b.length).length ≤ (140737488355328 : Nat))) &&
 true then
 some
 (V.tup
 [V.agg
 [V.int IntKind.i64 (IntKind.i64.wrap (gt b (0 : Nat))),
 V.int IntKind.i64 (IntKind.i64.wrap (gt b (1 : Nat))), V.int IntKind.u32 (u32 b (4 : Int)).1,
 V.bytes (cutL b (8 : Nat) b.length)],
 V.int IntKind.i64 (0 : Int)])
 else none
 else none := by kernel_rfl

theorem IParse_v (s d b : List UInt8) (hb : b.length ≤ 1048576) : callV E8b af_IParse [.barr 16 s, .barr 16 d, .bytes b] = some (ipV s d b) := by
  rw [IParse_t]
  unfold ipV
  have g0 := gt_lo b 0; have g0' := gt_hi b 0
  have g1 := gt_lo b 1; have g1' := gt_hi b 1
  by_cases h : b.length < 8
  · have he : ipE s d b = 3 := if_pos h
    rw [he]
    simp (disch := omega) only [dec_t, dec_f, inB_t, inC_t, andT_t, cond_true, cond_false, Bool.and_true, Bool.true_and, w64, wu32, wu8, nble_t, nblt_t, Bool.not_true, Bool.not_false, Bool.not_not]
    rfl
  · have hu : (u32 b 4).1 = be32 b 4 := by unfold u32; rw [if_pos (by omega)]; rfl
    have hl : (cutL b 8 b.length).length ≤ 140737488355328 := by rw [length_cutL]; omega
    rw [hu]
    by_cases h2 : both s d 58 b = 65535
    · have he : ipE s d b = 0 := by unfold ipE; rw [if_neg h, if_pos h2]
      rw [he, ieq_t h2]
      simp (disch := omega) only [dec_t, dec_f, inB_t, inC_t, andT_t, cond_true, cond_false, Bool.and_true, Bool.true_and, w64, wu32, wu8, nble_t, nblt_t, Bool.not_true, Bool.not_false, Bool.not_not]
      rw [cutL_all]
      rfl
    · have he : ipE s d b = 6 := by unfold ipE; rw [if_neg h, if_neg h2]
      rw [he, ieq_f h2]
      simp (disch := omega) only [dec_t, dec_f, inB_t, inC_t, andT_t, cond_true, cond_false, Bool.and_true, Bool.true_and, w64, wu32, wu8, nble_t, nblt_t, Bool.not_true, Bool.not_false, Bool.not_not]
      rfl
theorem IParse_con : ∀ vs v, cIParse vs = some (v, true) → SpecV Try.prog 214 vs v := by
  intro vs v h; unfold cIParse at h; split at h
  · rename_i s d b
    injection h with h; injection h with h hb; subst h
    exact callV_ok E8b_ok af_IParse_ok (IParse_v s d b (of_decide_eq_true hb))
  · cases h
end Go.Proofs.Ytbojofchpnfnlaa

namespace Go.Proofs.Ytbojofchpnfnlaa
open Go Go.Am Go.RowKit Go.Mix Go.Bas
set_option maxRecDepth 100000
end Go.Proofs.Ytbojofchpnfnlaa
