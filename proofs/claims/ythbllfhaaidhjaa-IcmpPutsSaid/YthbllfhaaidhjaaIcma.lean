/- The walks of package icmp, first part: the bytes of a message. -/
import Derived.Test.YthbllfhaaidhjaaGen
import Derived.Test.YthbllfhaaidhjaaCksc
namespace Go.Proofs.Ythbllfhaaidhjaa
open Go.RowKit Go.Mix Go.Bas

def octB (n : Int) : Bool := decide (0 ≤ n ∧ n ≤ 255)
def msg0 (kd cd wd : Int) (body : List UInt8) : List UInt8 := [b8 kd, b8 cd, 0, 0] ++ four wd ++ body
def putM (src dst : List UInt8) (kd cd wd : Int) (body : List UInt8) : List UInt8 :=
  if octB kd = true ∧ octB cd = true then (msg0 kd cd wd body).take 2 ++ (two (chk src dst 58 (msg0 kd cd wd body)) ++ (msg0 kd cd wd body).drop 4) else []
theorem octB_iff {n : Int} : octB n = true ↔ 0 ≤ n ∧ n ≤ 255 := by unfold octB; exact decide_eq_true_iff
theorem octB_not {n : Int} : octB n = false ↔ ¬ (0 ≤ n ∧ n ≤ 255) := by unfold octB; exact decide_eq_false_iff_not

theorem octet_calls (n : Int) (w : World) : Calls Try.prog 70 #[.int .i64 n] w fun e w' => e = .returned (.bool (octB n)) ∧ w = w' := by
  by_cases h0 : 0 ≤ n
  · by_cases h1 : n ≤ 255
    · have HB := hid (octB_iff.2 ⟨h0, h1⟩)
      go_enter Try.func70, Try.ntmps70
      go_wp2
      go_ret
      exact ⟨by rw [HB.out]; rfl, rfl⟩
    · have HB := hid (octB_not.2 (fun h => h1 h.2))
      go_enter Try.func70, Try.ntmps70
      go_wp2
      go_ret
      exact ⟨by rw [HB.out]; rfl, rfl⟩
  · have HB := hid (octB_not.2 (fun h => h0 h.1))
    go_enter Try.func70, Try.ntmps70
    go_wp2
    go_ret
    exact ⟨by rw [HB.out]; rfl, rfl⟩

set_option maxRecDepth 8000 in
set_option maxHeartbeats 1000000 in
theorem IPut_calls (src dst : List UInt8) (kd cd wd : Int) (A : Option Addr) (n c : Nat) (body : List UInt8) (w : World) (hs : src.length = 16) (hd : dst.length = 16) (h : Bs w A n c body) (hsz : n ≤ 140737488351232) (hw0 : 0 ≤ wd) (hw1 : wd < 4294967296) :
    Calls Try.prog 21 #[av src, av dst, .agg #[.int .i64 kd, .int .i64 cd, .int .u32 wd, .slice A n c]] w fun e w' => ∃ A' n' c', e = .returned (.slice A' n' c') ∧ Own w' w.heap.size 5 A' n' c' (putM src dst kd cd wd body) ∧ Below w.heap.size w w' := by
  obtain ⟨i0, hi, hz0, hz1, hz2⟩ := info_parts Try.infob
  unfold av
  have HH := hid h
  have HS := hid hs
  have HD := hid hd
  have HW1 := hid hw1
  clear h hs hd hw1
  by_cases k0 : octB kd = true
  · by_cases k1 : octB cd = true
    · have hput : putM src dst kd cd wd body = (msg0 kd cd wd body).take 2 ++ (two (chk src dst 58 (msg0 kd cd wd body)) ++ (msg0 kd cd wd body).drop 4) := if_pos ⟨k0, k1⟩
      have HP := hid hput
      have r0 := octB_iff.1 k0
      have r1 := octB_iff.1 k1
      obtain ⟨r00, r01⟩ := r0
      obtain ⟨r10, r11⟩ := r1
      have K0 := hid k0
      have K1 := hid k1
      clear hput k0 k1
      go_enter Try.func21, Try.ntmps21
      go_wp2_with fail
      refine (octet_calls _ _).mono ?_; rintro e w' ⟨rfl, rfl⟩
      rw [K0.out]
      go_wp2_with fail
      refine (octet_calls _ _).mono ?_; rintro e w' ⟨rfl, rfl⟩
      rw [K1.out]
      go_wp2_with fail
      refine calls_name ?_; intro w4 hw4
      have hS : Blk w4 w.heap.size 23 (src.map bv) := by rw [hw4]; exact (((Blk.new _ _ _).alloc _).alloc _).alloc _
      have hD : Blk w4 (w.heap.size + 1) 23 (dst.map bv) := by rw [hw4]; exact ((Blk.new_at _ _ _ (by simp)).alloc _).alloc _
      have hM : Blk w4 (w.heap.size + 1 + 1) 29 [.int .i64 kd, .int .i64 cd, .int .u32 wd, .slice A n c] := by rw [hw4]; exact (Blk.new_at _ _ _ (by simp)).alloc _
      have ho4 : Own w4 w.heap.size 5 (some ⟨w.heap.size + 1 + 1 + 1, 0, none⟩) 4 4 [b8 kd, b8 cd, 0, 0] := by
        rw [hw4]; exact Own.made_at _ _ _ _ (by simp) rfl (by simp [bv_b8]; exact ⟨by omega, by omega, rfl⟩) (by simp) (by simp; omega)
      have hb4 : Below w.heap.size w w4 := by rw [hw4]; exact ((((Below.refl _ _).alloc (Nat.le_refl _) _).alloc (by simp) _).alloc (by simp; omega) _).alloc (by simp; omega) _
      have hx4 := hb4.size
      clear hw4
      refine (Put32_calls w.heap.size _ _ _ _ _ _ ho4 hx4 (by omega) hw0 HW1.out).mono ?_; rintro e w5 ⟨A5, n5, c5, rfl, ho5, hg5⟩
      have hS5 := hS.grown hg5 (ho4.apart hS (by decide))
      have hD5 := hD.grown hg5 (ho4.apart hD (by decide))
      have hM5 := hM.grown hg5 (ho4.apart hM (by decide))
      have hb5 := hb4.trans (below_grown hg5 ho4 (Nat.le_refl _) hx4)
      have hn5 : n5 = 8 := by have := ho5.len; simpa [four] using this
      subst hn5
      have c3 := hM5.cell (j := 3) rfl
      have hx5 := hb5.size
      have HS5 := hid hS5
      have HD5 := hid hD5
      have HB5 := hid hb5
      clear hS hD hM ho4 hb4 hg5 hS5 hD5 hM5 hb5 hx4
      go_wp2_with (at_builtin; refine stop ?_)
      refine Stop.on (wpList_app rfl _ _ 27 rfl 5 i0 Try.underlying27 hi hz0 hz1 hz2 w.heap.size _ _ rfl rfl ho5 (HH.out.step HB5.out) (by omega) hx5 ?_)
      intro A6 n6 c6 w6 ho6 hg6
      have hS6 := HS5.out.grown hg6 (ho5.apart HS5.out (by decide))
      have hD6 := HD5.out.grown hg6 (ho5.apart HD5.out (by decide))
      have hb6 := HB5.out.trans (below_grown hg6 ho5 (Nat.le_refl _) hx5)
      have hn6 : n6 ≤ 140737488351240 := by have := ho6.len_app ho5; have e := HH.out.len; omega
      have hi16 : (Try.prog.info? 23).map (·.size) = some 16 := by kernel_rfl
      have HLS := hid (hS6.ld_all (P := Try.prog) Try.underlying23 rfl (by rw [List.length_map, HS.out]; exact hi16))
      have HLD := hid (hD6.ld_all (P := Try.prog) Try.underlying23 rfl (by rw [List.length_map, HD.out]; exact hi16))
      have HB6 := hid hb6
      have HO6 : Hid (Own w6 w.heap.size 5 A6 n6 c6 (msg0 kd cd wd body)) := hid ho6
      clear hg6 ho5 c3 HS5 HD5 HB5 hS6 hD6 hb6 hi16 ho6
      go_wp2_with (with_reducible refine wpList_ld rfl (.agg (src.map bv).toArray) 23 (.tmp 3) (.pointer (some ⟨w.heap.size, 0, none⟩)) rfl rfl (HLS.out) ?_; refine stop ?_)
      refine Stop.on ?_
      go_wp2_with (with_reducible refine wpList_ld rfl (.agg (dst.map bv).toArray) 23 (.tmp 4) (.pointer (some ⟨w.heap.size + 1, 0, none⟩)) rfl rfl (HLD.out) ?_; refine stop ?_)
      refine Stop.on ?_
      go_wp2_with fail
      refine (Check_calls src dst 58 A6 n6 c6 (msg0 kd cd wd body) _ HS.out HD.out HO6.out.bs (by omega)).mono ?_; rintro e w7 ⟨rfl, hb7⟩
      have HB7 := hid (below_next HB6.out hb7)
      have HO7 := hid (HO6.out.step hb7)
      clear hb7 HLS HLD HB6 HO6
      go_wp2_with fail
      refine (Set16_calls A6 n6 c6 (msg0 kd cd wd body) 2 _ _ HO7.out.bs (by omega)).mono ?_; rintro e w8 ⟨A8, n8, c8, rfl, ho8, hb8⟩
      have hset : set16 (msg0 kd cd wd body) 2 (chk src dst 58 (msg0 kd cd wd body)) = (putM src dst kd cd wd body, true) := by
        rw [HP.out]; unfold set16; rw [if_pos ⟨by omega, by simp [msg0, four]; omega⟩]; rfl
      rw [hset] at ho8
      rw [hset]
      have hb8' := below_next HB7.out hb8
      have hx7 := HB7.out.size
      clear hset hb8 HO7 HB7
      go_wp2
      go_ret
      exact ⟨_, _, _, rfl, ho8.mono hx7, hb8'⟩
    · have k1' : octB cd = false := by simpa using k1
      have hput : putM src dst kd cd wd body = [] := if_neg (fun h => k1 h.2)
      have HP := hid hput
      have K0 := hid k0
      have K1 := hid k1'
      clear hput k0 k1 k1'
      go_enter Try.func21, Try.ntmps21
      go_wp2_with fail
      refine (octet_calls _ _).mono ?_; rintro e w' ⟨rfl, rfl⟩
      rw [K0.out]
      go_wp2_with fail
      refine (octet_calls _ _).mono ?_; rintro e w' ⟨rfl, rfl⟩
      rw [K1.out]
      go_wp2
      go_ret
      exact ⟨_, _, _, rfl, by rw [HP.out]; exact Own.nil _ _ _, (((Below.refl _ _).alloc (Nat.le_refl _) _).alloc (by simp) _).alloc (by simp; omega) _⟩
  · have k0' : octB kd = false := by simpa using k0
    have hput : putM src dst kd cd wd body = [] := if_neg (fun h => k0 h.1)
    have HP := hid hput
    have K0 := hid k0'
    clear hput k0 k0'
    go_enter Try.func21, Try.ntmps21
    go_wp2_with fail
    refine (octet_calls _ _).mono ?_; rintro e w' ⟨rfl, rfl⟩
    rw [K0.out]
    go_wp2
    go_ret
    exact ⟨_, _, _, rfl, by rw [HP.out]; exact Own.nil _ _ _, (((Below.refl _ _).alloc (Nat.le_refl _) _).alloc (by simp) _).alloc (by simp; omega) _⟩
end Go.Proofs.Ythbllfhaaidhjaa
