/- The walks of the laws OctetsBack, OctetsLays and OctetsNew. -/
import Derived.Test.YtkibjkpmdlikiaaOctl
namespace Go.Proofs.Ytkibjkpmdlikiaa
open Go.RowKit Go.Mix Go.Bas

theorem u16_two (a r : List UInt8) (n : Int) (h0 : 0 ≤ n) (h1 : n < 65536) (i : Int) (hi : i = a.length) : u16 (a ++ (two n ++ r)) i = (n, true) := by
  subst hi
  unfold u16
  rw [if_pos (by simp [two]; omega)]
  rw [Int.toNat_natCast]
  have e0 := gt_append_add a (two n ++ r) 0
  have e1 := gt_append_add a (two n ++ r) 1
  rw [Nat.add_zero] at e0
  rw [e0, e1]
  simp only [two, List.cons_append, gt_cons_succ, gt_cons_zero, b8_toNat]
  have : n / 256 % 256 * 256 + n % 256 = n := by omega
  rw [this]
theorem u32_four (a r : List UInt8) (n : Int) (h0 : 0 ≤ n) (h1 : n < 4294967296) (i : Int) (hi : i = a.length) : u32 (a ++ (four n ++ r)) i = (n, true) := by
  subst hi
  unfold u32 be32
  rw [if_pos (by simp [four]; omega)]
  rw [Int.toNat_natCast]
  have e0 := gt_append_add a (four n ++ r) 0
  have e1 := gt_append_add a (four n ++ r) 1
  have e2 := gt_append_add a (four n ++ r) 2
  have e3 := gt_append_add a (four n ++ r) 3
  rw [Nat.add_zero] at e0
  rw [e0, e1, e2, e3]
  simp only [four, List.cons_append, gt_cons_succ, gt_cons_zero, b8_toNat]
  have : ((n / 16777216 % 256 * 256 + n / 65536 % 256) * 256 + n / 256 % 256) * 256 + n % 256 = n := by omega
  rw [this]

set_option maxHeartbeats 1000000 in
theorem OctetsBack_calls (A0 : Option Addr) (n0 c0 : Nat) (l0 : List UInt8) (A1 : Option Addr) (n1 c1 : Nat) (l1 : List UInt8) (u : Int) (w : World) (h0 : Bs w A0 n0 c0 l0) (h1 : Bs w A1 n1 c1 l1) (s0 : n0 ≤ 1048576) (s1 : n1 ≤ 1048576) (hu0 : 0 ≤ u) (hu1 : u ≤ 4294967295) :
    Calls Try.prog 7 #[.slice A0 n0 c0, .slice A1 n1 c1, .int .u32 u] w fun e w' => e = .returned (.bool true) ∧ Below w.heap.size w w' := by
  obtain ⟨i0, hi, hz0, hz1, hz2⟩ := info_parts Try.infob
  have hr0 : 0 ≤ u % 65536 := by omega
  have hr1 : u % 65536 < 65536 := by omega
  have HU1 := hid hu1
  clear hu1
  go_enter Try.func7, Try.ntmps7
  go_wp2_with (at_builtin; refine stop ?_)
  have ho := Own.made_at (base := w.heap.size) w 5 [] #[] rfl rfl rfl (by simp) (Nat.le_refl _)
  refine Stop.on (wpList_app rfl _ _ 22 rfl 5 i0 Try.underlying22 hi hz0 hz1 hz2 w.heap.size [] l0 rfl rfl ho (h0.alloc _) (by simp; omega) (by simp) ?_)
  intro A2 n2 c2 w2 ho2 hg2
  have hb2 : Below w.heap.size w w2 := ((Below.refl _ _).alloc (Nat.le_refl _) _).trans (below_grown hg2 ho (Nat.le_refl _) (by simp))
  have hs2 := hb2.size
  have hn2 : n2 ≤ 1048576 := by have := ho2.len; have := h0.len; simp at *; omega
  clear hg2 ho
  go_wp2_with fail
  refine (Put16_calls w.heap.size _ _ _ _ _ _ ho2 hs2 (by omega)).mono ?_; rintro e w3 ⟨A3, n3, c3, rfl, ho3, hg3⟩
  have hb3 := hb2.trans (below_grown hg3 ho2 (Nat.le_refl _) hs2)
  have hs3 := hb3.size
  have hn3 : n3 ≤ 1048578 := by have := ho3.len; have := ho2.len; simp [two] at *; omega
  clear hg3 ho2 hb2 hs2
  go_wp2_with fail
  refine (Put32_calls w.heap.size _ _ _ _ _ _ ho3 hs3 (by omega) hu0 (by have := HU1.out; omega)).mono ?_; rintro e w4 ⟨A4, n4, c4, rfl, ho4, hg4⟩
  have hb4 := hb3.trans (below_grown hg4 ho3 (Nat.le_refl _) hs3)
  have hs4 := hb4.size
  have hn4 : n4 ≤ 1048582 := by have := ho4.len; have := ho3.len; simp [four] at *; omega
  clear hg4 ho3 hb3 hs3
  go_wp2_with (at_builtin; refine stop ?_)
  refine Stop.on (wpList_app rfl _ _ 22 rfl 5 i0 Try.underlying22 hi hz0 hz1 hz2 w.heap.size _ l1 rfl rfl ho4 (h1.below (Nat.le_refl _) hb4) (by omega) hs4 ?_)
  intro A5 n5 c5 w5 ho5 hg5
  have hb5 := hb4.trans (below_grown hg5 ho4 (Nat.le_refl _) hs4)
  have hs5 := hb5.size
  have hbs5 := ho5.bs
  rw [show [] ++ l0 ++ two (u % 65536) ++ four u ++ l1 = l0 ++ (two (u % 65536) ++ (four u ++ l1)) by simp] at hbs5
  have e1 := hid (u16_two l0 (four u ++ l1) (u % 65536) hr0 hr1 n0 (by rw [h0.len]))
  have e2 := hid (u32_four (l0 ++ two (u % 65536)) l1 u hu0 (by have := HU1.out; omega) ((n0 : Int) + 2) (by rw [h0.len]; simp [two]))
  clear hg5 ho4 hb4 hs4 ho5
  go_wp2_with fail
  refine (U16_calls _ _ _ _ _ _ hbs5).mono ?_; rintro e w6 ⟨rfl, q6⟩
  rw [e1.out]
  have hb6 := hb5.trans (below_quiet q6)
  have hbs6 : Bs w6 A5 n5 c5 (l0 ++ (two (u % 65536) ++ (four u ++ l1))) := hbs5.step (below_quiet q6)
  rw [show l0 ++ (two (u % 65536) ++ (four u ++ l1)) = (l0 ++ two (u % 65536)) ++ (four u ++ l1) by simp] at hbs6
  clear q6 hbs5 hb5 e1
  go_wp2_with fail
  refine (U32_calls _ _ _ _ _ _ hbs6).mono ?_; rintro e w7 ⟨rfl, rfl⟩
  rw [e2.out]
  go_wp2_with fail
  refine (lives1_calls _).mono ?_; rintro e w7 ⟨rfl, hb7⟩
  have hb8 := below_next hb6 hb7
  clear hb6 hb7 hbs6
  go_wp2
  go_ret
  exact ⟨rfl, hb8⟩

set_option maxHeartbeats 1000000 in
theorem OctetsNew_calls (A0 : Option Addr) (n0 c0 : Nat) (l0 : List UInt8) (i n : Int) (w : World) (h0 : Bs w A0 n0 c0 l0) (s0 : n0 ≤ 140737488355328) :
    Calls Try.prog 10 #[.slice A0 n0 c0, .int .i64 i, .int .i64 n] w fun e w' => e = .returned (.bool true) ∧ Below w.heap.size w w' := by
  have hstr := run_string (P := Try.prog) 22 5 9 Try.underlying22 Try.underlying5 Try.underlying9 h0
  go_enter Try.func10, Try.ntmps10
  go_wp2_with fail
  refine (Cut_calls _ _ _ l0 _ _ _ h0 s0).mono ?_; rintro e w1 ⟨A1, n1, c1, rfl, ho1, hb1⟩
  clear hstr
  go_wp2_with fail
  refine (Set16_calls _ _ _ l0 _ _ _ (h0.step hb1) s0).mono ?_; rintro e w2 ⟨A2, n2, c2, rfl, ho2, hb2⟩
  have ho1' := ho1.step hb2
  have hb2' := below_next hb1 hb2
  have hs1 := hb1.size
  have hs2 := hb2.size
  have hlt1 : ∀ g, A1 = some ⟨g, 0, none⟩ → g < w1.heap.size := fun g hg => (ho1.block g (by subst hg; rfl)).2
  have hlt2 : ∀ g, A2 = some ⟨g, 0, none⟩ → g < w2.heap.size := fun g hg => (ho2.block g (by subst hg; rfl)).2
  clear hb1 hb2 ho1
  go_wp2_with fail
  have hss : Bss (w2.alloc (.cells #[.slice A0 n0 c0] 22)) (some ⟨w2.heap.size, 0, none⟩) 1 1 [l0] :=
    ⟨rfl, Nat.le_refl _, by omega, fun _ => ⟨w2.heap.size, 0, rfl, by simp, fun j hj => ⟨A0, n0, c0, by
      have : j = 0 := by simpa using hj
      subst this
      simp, by
      have : j = 0 := by simpa using hj
      subst this
      exact (h0.step (hb2'.mono (Nat.le_refl _))).alloc _⟩⟩⟩
  refine (Join_calls _ _ _ [l0] _ hss (by have := h0.len; simp; omega)).mono ?_; rintro e w3 ⟨A3, n3, c3, rfl, ho3, hb3⟩
  obtain rfl : n3 = n0 := by have := ho3.len; have := h0.len; simp at *; omega
  have ho1 := (ho1'.alloc (.cells #[.slice A0 n3 c0] 22)).step hb3
  have ho2 := (ho2.alloc (.cells #[.slice A0 n3 c0] 22)).step hb3
  have hb4 := below_next (hb2'.alloc hb2'.size _) (hb3.mono (Nat.le_refl _))
  have hs3 := hb3.size
  have ho3 := ho3.mono (base' := w2.heap.size) (by simp)
  simp at hs3
  generalize hl1 : (cutb l0 i n).fst = l1 at *
  generalize hl2 : (set16 l0 i n).fst = l2 at *
  generalize hl3 : [l0].flatten = l3 at *
  clear hl1 hl2 hl3 hb3 hb2' ho1' hss
  have hm1 : n1 ≤ 9223372036854775807 := Nat.le_trans ho1.bs.cap ho1.bs.most
  have hm2 : n2 ≤ 9223372036854775807 := Nat.le_trans ho2.bs.cap ho2.bs.most
  have HB1 := hid hb4
  have HLT1 := hid hlt1
  have HLT2 := hid hlt2
  clear hb4 hlt1 hlt2
  go_wp2_with fail
  go_loopw [13] (fun kk wr => ∃ (j : Nat) (l : List UInt8), j ≤ n1 ∧ kk = .int .i64 j ∧ Own wr w.heap.size 5 A1 n1 c1 l ∧ Own wr w1.heap.size 5 A2 n2 c2 l2 ∧ Own wr w2.heap.size 5 A3 n3 c3 l3 ∧ Below w.heap.size w wr) (fun kk _ => n1 - (intOf kk).toNat)
  case atStart => exact ⟨0, l1, by omega, rfl, ho1, ho2, ho3, HB1.out⟩
  case round =>
    obtain ⟨j, l, hj, rfl, ho, o2, o3, hbr⟩ := hrel
    by_cases hlt : j < n1
    · obtain ⟨g, rfl, hg1, hg2⟩ := ho.at_ (by omega)
      have hc := ho.cell hlt
      have hf := ho.free (j := j)
      have hlt' : (j : Int) < n1 := by omega
      have hst := ho.store (j := j) (b8 (gt l j + 1))
      have hbn := hbr.setCell (p := ⟨g, j, none⟩) (by show _ ≤ g; omega) (bv (b8 (gt l j + 1)))
      have x0 := gt_lo l j
      have x1 := gt_hi l j
      have hgl := HLT1.out g rfl
      have p2 := o2.far (p := ⟨g, j, none⟩) (by show g < _; omega) (bv (b8 (gt l j + 1)))
      have p3 := o3.far (p := ⟨g, j, none⟩) (by show g < _; omega) (bv (b8 (gt l j + 1)))
      rw [bv_b8] at hst hbn p2 p3
      go_wp2
      go_roundw
      case rel => exact ⟨j + 1, l.set j (b8 (gt l j + 1)), by omega, by go_num, hst, p2, p3, hbn⟩
      case measure => simp [intOf]; omega
    · have hlt' : ¬ ((j : Int) < n1) := by omega
      clear hlt
      have ho2 := o2
      have ho3 := o3
      have HB2 := hid hbr
      obtain ⟨wb, rfl⟩ : ∃ wb : World, wb = wr := ⟨_, rfl⟩
      clear ho o2 o3 hbr
      go_wp2_with fail
      go_loopw [14] (fun kk wr => ∃ (j : Nat) (l : List UInt8), j ≤ n2 ∧ kk = .int .i64 j ∧ Own wr w1.heap.size 5 A2 n2 c2 l ∧ Own wr w2.heap.size 5 A3 n3 c3 l3 ∧ Below w.heap.size w wr) (fun kk _ => n2 - (intOf kk).toNat)
      case atStart => exact ⟨0, l2, by omega, rfl, ho2, ho3, HB2.out⟩
      case round =>
        obtain ⟨j, l, hj, rfl, ho, o3, hbr⟩ := hrel
        by_cases hlt : j < n2
        · obtain ⟨g, rfl, hg1, hg2⟩ := ho.at_ (by omega)
          have hc := ho.cell hlt
          have hf := ho.free (j := j)
          have hlt' : (j : Int) < n2 := by omega
          have hst := ho.store (j := j) (b8 (gt l j + 1))
          have hbn := hbr.setCell (p := ⟨g, j, none⟩) (by show _ ≤ g; omega) (bv (b8 (gt l j + 1)))
          have x0 := gt_lo l j
          have x1 := gt_hi l j
          have hgl := HLT2.out g rfl
          have p3 := o3.far (p := ⟨g, j, none⟩) (by show g < _; omega) (bv (b8 (gt l j + 1)))
          rw [bv_b8] at hst hbn p3
          go_wp2
          go_roundw
          case rel => exact ⟨j + 1, l.set j (b8 (gt l j + 1)), by omega, by go_num, hst, p3, hbn⟩
          case measure => simp [intOf]; omega
        · have hlt' : ¬ ((j : Int) < n2) := by omega
          clear hlt
          have ho3 := o3
          have HB3 := hid hbr
          obtain ⟨wc, rfl⟩ : ∃ wc : World, wc = wr := ⟨_, rfl⟩
          clear ho o3 hbr
          go_wp2_with fail
          go_loopw [15] (fun kk wr => ∃ (j : Nat) (l : List UInt8), j ≤ n3 ∧ kk = .int .i64 j ∧ Own wr w2.heap.size 5 A3 n3 c3 l ∧ Below w.heap.size w wr) (fun kk _ => n3 - (intOf kk).toNat)
          case atStart => exact ⟨0, l3, by omega, rfl, ho3, HB3.out⟩
          case round =>
            obtain ⟨j, l, hj, rfl, ho, hbr⟩ := hrel
            by_cases hlt : j < n3
            · obtain ⟨g, rfl, hg1, hg2⟩ := ho.at_ (by omega)
              have hc := ho.cell hlt
              have hf := ho.free (j := j)
              have hlt' : (j : Int) < n3 := by omega
              have hst := ho.store (j := j) (b8 (gt l j + 1))
              have hbn := hbr.setCell (p := ⟨g, j, none⟩) (by show _ ≤ g; omega) (bv (b8 (gt l j + 1)))
              have x0 := gt_lo l j
              have x1 := gt_hi l j

              rw [bv_b8] at hst hbn
              go_wp2
              go_roundw
              case rel => exact ⟨j + 1, l.set j (b8 (gt l j + 1)), by omega, by go_num, hst, hbn⟩
              case measure => simp [intOf]; omega
            · have hlt' : ¬ ((j : Int) < n3) := by omega
              clear hlt
              have hstr := run_string (P := Try.prog) 22 5 9 Try.underlying22 Try.underlying5 Try.underlying9 (h0.below (Nat.le_refl _) hbr)
              go_wp2_with fail
              refine (lives1_calls _).mono ?_; rintro e w7 ⟨rfl, hb7⟩
              have hb8 := below_next hbr hb7
              go_wp2
              go_ret
              exact ⟨rfl, hb8⟩

theorem sb_append (a b : List UInt8) : sb a ++ sb b = sb (a ++ b) := by
  unfold sb
  apply ByteArray.ext
  simp

theorem sb_size (a : List UInt8) : (sb a).size = a.length := by simp [sb, ByteArray.size]
theorem bss3 {w : World} {T : TypeId} {A0 A1 : Option Addr} {n0 c0 n1 c1 : Nat} {l0 l1 : List UInt8} (b0 : Bs w A0 n0 c0 l0) (b1 : Bs w A1 n1 c1 l1) :
    Bss (w.alloc (.cells #[.slice A0 n0 c0, .slice A1 n1 c1, .slice A0 n0 c0] T)) (some ⟨w.heap.size, 0, none⟩) 3 3 [l0, l1, l0] :=
  ⟨rfl, Nat.le_refl _, by omega, fun _ => ⟨w.heap.size, 0, rfl, by simp, fun j hj => by
    rcases (by simp at hj; omega : j = 0 ∨ j = 1 ∨ j = 2) with rfl | rfl | rfl
    · exact ⟨A0, n0, c0, by simp, b0.alloc _⟩
    · exact ⟨A1, n1, c1, by simp, b1.alloc _⟩
    · exact ⟨A0, n0, c0, by simp, b0.alloc _⟩⟩⟩

set_option maxHeartbeats 4000000 in
theorem OctetsLays_calls (A0 : Option Addr) (n0 c0 : Nat) (l0 : List UInt8) (A1 : Option Addr) (n1 c1 : Nat) (l1 : List UInt8) (i n : Int) (w : World) (h0 : Bs w A0 n0 c0 l0) (h1 : Bs w A1 n1 c1 l1) (s0 : n0 ≤ 1048576) (s1 : n1 ≤ 1048576) :
    Calls Try.prog 9 #[.slice A0 n0 c0, .slice A1 n1 c1, .agg #[.int .i64 i, .int .i64 n]] w fun e w' => e = .returned (.bool true) ∧ Below w.heap.size w w' := by
  obtain ⟨i0, hi, hz0, hz1, hz2⟩ := info_parts Try.infob
  go_enter Try.func9, Try.ntmps9
  go_wp2_with fail
  have hq0 : SB (w.heap.size + 1) (w.alloc (.cells #[.int .i64 i, .int .i64 n] 34)) (w.alloc (.cells #[.int .i64 i, .int .i64 n] 34)) := SB.refl (by simp)
  generalize hw0 : (w.alloc (.cells #[.int .i64 i, .int .i64 n] 34)) = w0 at *
  have hk0 : w0.cell? ⟨w.heap.size, 0, none⟩ = some (.int .i64 i) := by subst hw0; simp
  have hk1 : w0.cell? ⟨w.heap.size, 1, none⟩ = some (.int .i64 n) := by subst hw0; simp
  have hz : w0.heap.size = w.heap.size + 1 := by subst hw0; simp
  have hb0 : Below w.heap.size w w0 := by subst hw0; exact (Below.refl _ _).alloc (Nat.le_refl _) _
  have b0 := h0.step hb0
  have b1 := h1.step hb0
  clear h0 h1 hw0
  have HZ := hid hz
  have HB0 := hid hb0
  clear hz hb0
  refine (Set16_calls _ _ _ l0 _ _ _ b0 (by omega)).mono ?_; rintro e w1 ⟨A2, n2, c2, rfl, ho2, hb1⟩
  have k0 := (hb1.cell (p := ⟨w.heap.size, 0, none⟩) (by show w.heap.size < _; rw [HZ.out]; omega)).trans hk0
  have k1 := (hb1.cell (p := ⟨w.heap.size, 1, none⟩) (by show w.heap.size < _; rw [HZ.out]; omega)).trans hk1
  go_wp2_with fail
  refine (rSet16_calls _ _ _ l0 _ _ _ (b0.step hb1) (by omega)).mono ?_; rintro e w2 ⟨A3, n3, c3, rfl, ho3, hb2⟩
  have hb2' := below_next hb1 hb2
  have hstr2 := run_string (P := Try.prog) 22 5 9 Try.underlying22 Try.underlying5 Try.underlying9 (ho2.step hb2).bs
  have hstr3 := run_string (P := Try.prog) 22 5 9 Try.underlying22 Try.underlying5 Try.underlying9 ho3.bs
  clear k0 k1
  have k0 := (hb2'.cell (p := ⟨w.heap.size, 0, none⟩) (by show w.heap.size < _; rw [HZ.out]; omega)).trans hk0
  have k1 := (hb2'.cell (p := ⟨w.heap.size, 1, none⟩) (by show w.heap.size < _; rw [HZ.out]; omega)).trans hk1
  have b0 := b0.step hb2'
  have b1 := b1.step hb2'
  have hb := below_next HB0.out hb2'
  have hlt : w.heap.size < w2.heap.size := by have := hb2'.size; rw [HZ.out] at this; omega
  clear hk0 hk1 hb1 hb2 hb2' ho2 ho3 hq0 HB0 HZ
  go_wp2_with fail
  have hu0 : 0 ≤ n % 4294967296 := by omega
  have hu1 := hid (show n % 4294967296 < 4294967296 by omega)
  have hsa := sb_append
  have g1 : (sb l0).size + (sb (two n)).size ≤ 9223372036854775807 := by rw [sb_size, sb_size, ← b0.len]; simp [two]; omega
  have g2 : (sb l0).size + (sb (four (n % 4294967296))).size ≤ 9223372036854775807 := by rw [sb_size, sb_size, ← b0.len]; simp [four]; omega
  have g3 : (sb l0).size + (sb l1).size ≤ 9223372036854775807 := by rw [sb_size, sb_size, ← b0.len, ← b1.len]; omega
  have g4 : (sb (l0 ++ l1)).size + (sb l0).size ≤ 9223372036854775807 := by rw [sb_size, sb_size, List.length_append, ← b0.len, ← b1.len]; omega
  clear hstr2 hstr3
  have hne : Nonempty (SBW w2.heap.size w2) := Cls.ne (SB.refl (Nat.le_refl _))
  have f1 : ∀ u : SBW w2.heap.size w2, u.w.cell? ⟨w.heap.size, 1, none⟩ = some (.int .i64 n) := fun u => u.cell k1 hlt
  have fb0 : ∀ u : SBW w2.heap.size w2, (convert 22 9 (.slice A0 n0 c0)).run Try.prog u.w = .ok (str l0) u.w := fun u => run_string (P := Try.prog) 22 5 9 Try.underlying22 Try.underlying5 Try.underlying9 (b0.inS (Nat.le_refl _) u)
  have fb1 : ∀ u : SBW w2.heap.size w2, (convert 22 9 (.slice A1 n1 c1)).run Try.prog u.w = .ok (str l1) u.w := fun u => run_string (P := Try.prog) 22 5 9 Try.underlying22 Try.underlying5 Try.underlying9 (b1.inS (Nat.le_refl _) u)
  refine wp_region_segs (fun w1 => ∃ u : SBW w2.heap.size w2, w1 = u.w) ((1, false) :: (3, false) :: (4, false) :: (7, false) :: (8, false) :: (9, false) :: (10, false) :: (0, true) :: (2, true) :: (5, true) :: (6, false) :: (11, true) :: (12, false) :: (13, false) :: (14, false) :: (15, false) :: (17, false) :: (19, false) :: (22, false) :: (23, false) :: (24, false) :: (16, true) :: (18, true) :: (20, true) :: (21, false) :: (25, true) :: (26, false) :: (27, false) :: (28, false) :: (29, false) :: (30, false) :: (31, false) :: (32, false) :: (33, false) :: (37, false) :: (38, false) :: (39, false) :: (40, false) :: (41, false) :: (42, false) :: (43, false) :: (44, false) :: (34, true) :: (35, true) :: (36, false) :: (45, false) :: (46, false) :: (47, false) :: (48, true) :: (49, false) :: (50, false) :: []) (by kernel_rfl) (by kernel_rfl) (by kernel_rfl) (by kernel_rfl) (inC (SB.start (Nat.le_refl _))) ?_
  refine seg_held _ rfl ?_; go_big_quiet_step (fail); refine wpQuiet_nil ?_ -- 1 move
  refine seg_held _ rfl ?_; go_big_quiet_step (fail); refine wpQuiet_nil ?_ -- 3 indexAddr
  refine seg_held _ rfl ?_; go_big_quiet_step (fail); refine wpQuiet_nil ?_ -- 4 load
  refine seg_held _ rfl ?_; go_big_quiet_step (fail); refine wpQuiet_nil ?_ -- 7 move
  refine seg_held _ rfl ?_; go_big_quiet_step (fail); refine wpQuiet_nil ?_ -- 8 convert
  refine seg_held _ rfl ?_; go_big_quiet_step (fail); refine wpQuiet_nil ?_ -- 9 indexAddr
  refine seg_held _ rfl ?_; go_big_quiet_step (fail); refine wpQuiet_nil ?_ -- 10 load
  refine seg_loud _ rfl rfl ?_; intro K hK -- 0 buildSlice
  go_wp2_with fail
  refine ⟨_, fun _ h => h, inC ((SB.refl (Nat.le_refl _)).alloc _).drew, ?_⟩
  have hoA := Own.made_at (base := w2.heap.size) w2 5 [] #[] rfl rfl rfl (by simp) (Nat.le_refl _)
  refine seg_loud _ rfl rfl ?_; intro K hK -- 2 builtin:append
  refine wp_app (.tmp 43) (.tmp 44) 22 rfl 5 i0 Try.underlying22 hi hz0 hz1 hz2 w2.heap.size [] l0 rfl rfl hoA.drew (b0.alloc _).drew (by omega) (by simp) ?_
  intro A4 n4 c4 w4 ho4 hg4
  have hq4 : SB w2.heap.size w2 w4 := ((SB.refl (Nat.le_refl _)).alloc (.cells #[] 5)).drew.low (below_grown hg4 hoA.drew (Nat.le_refl _) (by simp))
  have hn4 : n4 ≤ 1048576 := by have := ho4.len; have := b0.len; simp at *; omega
  refine hK _ _ ⟨_, fun _ h => h, inC hq4, ?_⟩
  clear hK K hoA hg4
  simp only [Act.put, List.setIfInBounds_toArray, List.set_cons_zero, List.set_cons_succ]
  refine seg_loud _ rfl rfl ?_; intro K hK -- 5 call harrier/octets.Put16
  go_wp2_with fail
  refine (Put16_calls w2.heap.size _ _ _ _ _ _ ho4 hq4.2 (by omega)).mono ?_
  rintro e w5 ⟨A5, n5, c5, rfl, ho5, hg5⟩
  have hq5 := hq4.low (below_grown hg5 ho4 (Nat.le_refl _) hq4.2)
  clear hg5 hq4 ho4
  go_wp2_with fail
  refine ⟨fun w1 => ∃ u : SBW w5.heap.size w5, w1 = u.w, subC (fun _ h => hq5.sub hq5.2 h), inC (SB.refl (Nat.le_refl _)), ?_⟩
  clear hne f1 fb0 fb1
  have k1 := (hq5.1.cell (p := ⟨w.heap.size, 1, none⟩) hlt).trans k1
  have b0 := b0.step hq5.1
  have b1 := b1.step hq5.1
  have hb := below_next hb hq5.1
  have hlt := Nat.lt_of_lt_of_le hlt hq5.2
  have hne : Nonempty (SBW w5.heap.size w5) := Cls.ne (SB.refl (Nat.le_refl _))
  have f1 : ∀ u : SBW w5.heap.size w5, u.w.cell? ⟨w.heap.size, 1, none⟩ = some (.int .i64 n) := fun u => u.cell k1 hlt
  have fb0 : ∀ u : SBW w5.heap.size w5, (convert 22 9 (.slice A0 n0 c0)).run Try.prog u.w = .ok (str l0) u.w := fun u => run_string (P := Try.prog) 22 5 9 Try.underlying22 Try.underlying5 Try.underlying9 (b0.inS (Nat.le_refl _) u)
  have fb1 : ∀ u : SBW w5.heap.size w5, (convert 22 9 (.slice A1 n1 c1)).run Try.prog u.w = .ok (str l1) u.w := fun u => run_string (P := Try.prog) 22 5 9 Try.underlying22 Try.underlying5 Try.underlying9 (b1.inS (Nat.le_refl _) u)
  have fs : ∀ u : SBW w5.heap.size w5, (convert 22 9 (.slice A5 n5 c5)).run Try.prog u.w = .ok (str ([] ++ l0 ++ two n)) u.w := fun u => run_string (P := Try.prog) 22 5 9 Try.underlying22 Try.underlying5 Try.underlying9 (ho5.bs.inS (Nat.le_refl _) u)
  clear ho5 hq5
  refine seg_held _ rfl ?_; go_big_quiet_step (fail); refine wpQuiet_nil ?_ -- 6 convert
  refine seg_loud _ rfl rfl ?_; intro K hK -- 11 call harrier/harrierref01.Two
  go_wp2_with fail
  refine (Two_calls _ _).mono ?_
  rintro e w6 ⟨A6, n6, c6, rfl, ho6, hb6⟩
  have hq6 := (SB.refl (Nat.le_refl _)).step hb6
  clear hb6 fs
  go_wp2_with fail
  refine ⟨fun w1 => ∃ u : SBW w6.heap.size w6, w1 = u.w, subC (fun _ h => hq6.sub hq6.2 h), inC (SB.refl (Nat.le_refl _)), ?_⟩
  clear hne f1 fb0 fb1
  have k1 := (hq6.1.cell (p := ⟨w.heap.size, 1, none⟩) hlt).trans k1
  have b0 := b0.step hq6.1
  have b1 := b1.step hq6.1
  have hb := below_next hb hq6.1
  have hlt := Nat.lt_of_lt_of_le hlt hq6.2
  have hne : Nonempty (SBW w6.heap.size w6) := Cls.ne (SB.refl (Nat.le_refl _))
  have f1 : ∀ u : SBW w6.heap.size w6, u.w.cell? ⟨w.heap.size, 1, none⟩ = some (.int .i64 n) := fun u => u.cell k1 hlt
  have fb0 : ∀ u : SBW w6.heap.size w6, (convert 22 9 (.slice A0 n0 c0)).run Try.prog u.w = .ok (str l0) u.w := fun u => run_string (P := Try.prog) 22 5 9 Try.underlying22 Try.underlying5 Try.underlying9 (b0.inS (Nat.le_refl _) u)
  have fb1 : ∀ u : SBW w6.heap.size w6, (convert 22 9 (.slice A1 n1 c1)).run Try.prog u.w = .ok (str l1) u.w := fun u => run_string (P := Try.prog) 22 5 9 Try.underlying22 Try.underlying5 Try.underlying9 (b1.inS (Nat.le_refl _) u)
  have fs : ∀ u : SBW w6.heap.size w6, (convert 22 9 (.slice A6 n6 c6)).run Try.prog u.w = .ok (str (two n)) u.w := fun u => run_string (P := Try.prog) 22 5 9 Try.underlying22 Try.underlying5 Try.underlying9 (ho6.bs.inS (Nat.le_refl _) u)
  clear ho6 hq6
  refine seg_held _ rfl ?_; go_big_quiet_step (fail); refine wpQuiet_nil ?_ -- 12 convert
  refine seg_held _ rfl ?_; go_big_quiet_step (fail); refine wpQuiet_nil ?_ -- 13 binOp
  refine seg_held _ rfl ?_; go_big_quiet_step (fail); refine wpQuiet_nil ?_ -- 14 binOp
  refine seg_held _ rfl ?_; go_big_quiet_step (fail); refine wpQuiet_nil ?_ -- 15 move
  refine seg_held _ rfl ?_; go_big_quiet_step (fail); refine wpQuiet_nil ?_ -- 17 move
  refine seg_held _ rfl ?_; go_big_quiet_step (fail); refine wpQuiet_nil ?_ -- 19 move
  refine seg_held _ rfl ?_; go_big_quiet_step (fail); refine wpQuiet_nil ?_ -- 22 move
  refine seg_held _ rfl ?_; go_big_quiet_step (fail); refine wpQuiet_nil ?_ -- 23 convert
  refine seg_held _ rfl ?_; go_big_quiet_step (fail); refine wpQuiet_nil ?_ -- 24 move
  refine seg_loud _ rfl rfl ?_; intro K hK -- 16 buildSlice
  go_wp2_with fail
  refine ⟨_, fun _ h => h, inC ((SB.refl (Nat.le_refl _)).alloc _), ?_⟩
  have hoA := Own.made_at (base := w6.heap.size) w6 5 [] #[] rfl rfl rfl (by simp) (Nat.le_refl _)
  refine seg_loud _ rfl rfl ?_; intro K hK -- 18 builtin:append
  refine wp_app (.tmp 59) (.tmp 60) 22 rfl 5 i0 Try.underlying22 hi hz0 hz1 hz2 w6.heap.size [] l0 rfl rfl hoA (b0.alloc _) (by omega) (by simp) ?_
  intro A7 n7 c7 w7 ho7 hg7
  have hq7 : SB w6.heap.size w6 w7 := ((SB.refl (Nat.le_refl _)).alloc (.cells #[] 5)).low (below_grown hg7 hoA (Nat.le_refl _) (by simp))
  have hn7 : n7 ≤ 1048576 := by have := ho7.len; have := b0.len; simp at *; omega
  refine hK _ _ ⟨_, fun _ h => h, inC hq7, ?_⟩
  clear hK K hoA hg7
  simp only [Act.put, List.setIfInBounds_toArray, List.set_cons_zero, List.set_cons_succ]
  refine seg_loud _ rfl rfl ?_; intro K hK -- 20 call harrier/octets.Put32
  go_wp2_with fail
  refine (Put32_calls w6.heap.size _ _ _ _ _ _ ho7 hq7.2 (by omega) hu0 hu1.out).mono ?_
  rintro e w8 ⟨A8, n8, c8, rfl, ho8, hg8⟩
  have hq8 := hq7.low (below_grown hg8 ho7 (Nat.le_refl _) hq7.2)
  clear hg8 hq7 ho7 fs
  go_wp2_with fail
  refine ⟨fun w1 => ∃ u : SBW w8.heap.size w8, w1 = u.w, subC (fun _ h => hq8.sub hq8.2 h), inC (SB.refl (Nat.le_refl _)), ?_⟩
  clear hne f1 fb0 fb1
  have k1 := (hq8.1.cell (p := ⟨w.heap.size, 1, none⟩) hlt).trans k1
  have b0 := b0.step hq8.1
  have b1 := b1.step hq8.1
  have hb := below_next hb hq8.1
  have hlt := Nat.lt_of_lt_of_le hlt hq8.2
  have hne : Nonempty (SBW w8.heap.size w8) := Cls.ne (SB.refl (Nat.le_refl _))
  have f1 : ∀ u : SBW w8.heap.size w8, u.w.cell? ⟨w.heap.size, 1, none⟩ = some (.int .i64 n) := fun u => u.cell k1 hlt
  have fb0 : ∀ u : SBW w8.heap.size w8, (convert 22 9 (.slice A0 n0 c0)).run Try.prog u.w = .ok (str l0) u.w := fun u => run_string (P := Try.prog) 22 5 9 Try.underlying22 Try.underlying5 Try.underlying9 (b0.inS (Nat.le_refl _) u)
  have fb1 : ∀ u : SBW w8.heap.size w8, (convert 22 9 (.slice A1 n1 c1)).run Try.prog u.w = .ok (str l1) u.w := fun u => run_string (P := Try.prog) 22 5 9 Try.underlying22 Try.underlying5 Try.underlying9 (b1.inS (Nat.le_refl _) u)
  have fs : ∀ u : SBW w8.heap.size w8, (convert 22 9 (.slice A8 n8 c8)).run Try.prog u.w = .ok (str ([] ++ l0 ++ four (n % 4294967296))) u.w := fun u => run_string (P := Try.prog) 22 5 9 Try.underlying22 Try.underlying5 Try.underlying9 (ho8.bs.inS (Nat.le_refl _) u)
  clear ho8 hq8
  refine seg_held _ rfl ?_; go_big_quiet_step (fail); refine wpQuiet_nil ?_ -- 21 convert
  refine seg_loud _ rfl rfl ?_; intro K hK -- 25 call harrier/harrierref01.Four
  go_wp2_with fail
  refine (Four_calls _ _ hu0 hu1.out).mono ?_
  rintro e w9 ⟨A9, n9, c9, rfl, ho9, hb9⟩
  have hq9 := (SB.refl (Nat.le_refl _)).step hb9
  clear hb9 fs
  go_wp2_with fail
  refine ⟨fun w1 => ∃ u : SBW w9.heap.size w9, w1 = u.w, subC (fun _ h => hq9.sub hq9.2 h), inC (SB.refl (Nat.le_refl _)), ?_⟩
  clear hne f1 fb0 fb1
  have k1 := (hq9.1.cell (p := ⟨w.heap.size, 1, none⟩) hlt).trans k1
  have b0 := b0.step hq9.1
  have b1 := b1.step hq9.1
  have hb := below_next hb hq9.1
  have hlt := Nat.lt_of_lt_of_le hlt hq9.2
  have hne : Nonempty (SBW w9.heap.size w9) := Cls.ne (SB.refl (Nat.le_refl _))
  have f1 : ∀ u : SBW w9.heap.size w9, u.w.cell? ⟨w.heap.size, 1, none⟩ = some (.int .i64 n) := fun u => u.cell k1 hlt
  have fb0 : ∀ u : SBW w9.heap.size w9, (convert 22 9 (.slice A0 n0 c0)).run Try.prog u.w = .ok (str l0) u.w := fun u => run_string (P := Try.prog) 22 5 9 Try.underlying22 Try.underlying5 Try.underlying9 (b0.inS (Nat.le_refl _) u)
  have fb1 : ∀ u : SBW w9.heap.size w9, (convert 22 9 (.slice A1 n1 c1)).run Try.prog u.w = .ok (str l1) u.w := fun u => run_string (P := Try.prog) 22 5 9 Try.underlying22 Try.underlying5 Try.underlying9 (b1.inS (Nat.le_refl _) u)
  have fs : ∀ u : SBW w9.heap.size w9, (convert 22 9 (.slice A9 n9 c9)).run Try.prog u.w = .ok (str (four (n % 4294967296))) u.w := fun u => run_string (P := Try.prog) 22 5 9 Try.underlying22 Try.underlying5 Try.underlying9 (ho9.bs.inS (Nat.le_refl _) u)
  clear ho9 hq9
  refine seg_held _ rfl ?_; go_big_quiet_step (fail); refine wpQuiet_nil ?_ -- 26 convert
  refine seg_held _ rfl ?_; go_big_quiet_step (fail); refine wpQuiet_nil ?_ -- 27 binOp
  refine seg_held _ rfl ?_; go_big_quiet_step (fail); refine wpQuiet_nil ?_ -- 28 binOp
  refine seg_held _ rfl ?_; go_big_quiet_step (fail); refine wpQuiet_nil ?_ -- 29 pick
  refine seg_held _ rfl ?_; go_big_quiet_step (fail); refine wpQuiet_nil ?_ -- 30 move
  refine seg_held _ rfl ?_; go_big_quiet_step (fail); refine wpQuiet_nil ?_ -- 31 move
  refine seg_held _ rfl ?_; go_big_quiet_step (fail); refine wpQuiet_nil ?_ -- 32 move
  refine seg_held _ rfl ?_; go_big_quiet_step (fail); refine wpQuiet_nil ?_ -- 33 move
  refine seg_held _ rfl ?_; go_big_quiet_step (fail); refine wpQuiet_nil ?_ -- 37 move
  refine seg_held _ rfl ?_; go_big_quiet_step (fail); refine wpQuiet_nil ?_ -- 38 convert
  refine seg_held _ rfl ?_; go_big_quiet_step (fail); refine wpQuiet_nil ?_ -- 39 move
  refine seg_held _ rfl ?_; go_big_quiet_step (fail); refine wpQuiet_nil ?_ -- 40 convert
  refine seg_held _ rfl ?_; go_big_quiet_step (fail); refine wpQuiet_nil ?_ -- 41 binOp
  refine seg_held _ rfl ?_; go_big_quiet_step (fail); refine wpQuiet_nil ?_ -- 42 move
  refine seg_held _ rfl ?_; go_big_quiet_step (fail); refine wpQuiet_nil ?_ -- 43 convert
  refine seg_held _ rfl ?_; go_big_quiet_step (fail); refine wpQuiet_nil ?_ -- 44 binOp
  refine seg_loud _ rfl rfl ?_; intro K hK -- 34 buildSlice
  go_wp2_with fail
  refine ⟨_, fun _ h => h, inC ((SB.refl (Nat.le_refl _)).alloc _), ?_⟩
  refine seg_loud _ rfl rfl ?_; intro K hK -- 35 call harrier/octets.Join
  go_wp2_with fail
  refine (Join_calls _ _ _ [l0, l1, l0] _ (bss3 b0 b1) (by have := b0.len; have := b1.len; simp; omega)).mono ?_
  rintro e w10 ⟨A10, n10, c10, rfl, ho10, hb10⟩
  have hq10 := ((SB.refl (Nat.le_refl _)).alloc (.cells #[.slice A0 n0 c0, .slice A1 n1 c1, .slice A0 n0 c0] 22)).step hb10
  clear hb10 fs
  go_wp2_with fail
  refine ⟨fun w1 => ∃ u : SBW w10.heap.size w10, w1 = u.w, subC (fun _ h => hq10.sub hq10.2 h), inC (SB.refl (Nat.le_refl _)), ?_⟩
  clear hne f1 fb0 fb1
  have k1 := (hq10.1.cell (p := ⟨w.heap.size, 1, none⟩) hlt).trans k1
  have b0 := b0.step hq10.1
  have b1 := b1.step hq10.1
  have hb := below_next hb hq10.1
  have hlt := Nat.lt_of_lt_of_le hlt hq10.2
  have hne : Nonempty (SBW w10.heap.size w10) := Cls.ne (SB.refl (Nat.le_refl _))
  have f1 : ∀ u : SBW w10.heap.size w10, u.w.cell? ⟨w.heap.size, 1, none⟩ = some (.int .i64 n) := fun u => u.cell k1 hlt
  have fb0 : ∀ u : SBW w10.heap.size w10, (convert 22 9 (.slice A0 n0 c0)).run Try.prog u.w = .ok (str l0) u.w := fun u => run_string (P := Try.prog) 22 5 9 Try.underlying22 Try.underlying5 Try.underlying9 (b0.inS (Nat.le_refl _) u)
  have fb1 : ∀ u : SBW w10.heap.size w10, (convert 22 9 (.slice A1 n1 c1)).run Try.prog u.w = .ok (str l1) u.w := fun u => run_string (P := Try.prog) 22 5 9 Try.underlying22 Try.underlying5 Try.underlying9 (b1.inS (Nat.le_refl _) u)
  have fs : ∀ u : SBW w10.heap.size w10, (convert 22 9 (.slice A10 n10 c10)).run Try.prog u.w = .ok (str [l0, l1, l0].flatten) u.w := fun u => run_string (P := Try.prog) 22 5 9 Try.underlying22 Try.underlying5 Try.underlying9 (ho10.bs.inS (Nat.le_refl _) u)
  clear ho10 hq10
  refine seg_held _ rfl ?_; go_big_quiet_step (fail); refine wpQuiet_nil ?_ -- 36 convert
  refine seg_held _ rfl ?_; go_big_quiet_step (fail); refine wpQuiet_nil ?_ -- 45 binOp
  refine seg_held _ rfl ?_; go_big_quiet_step (fail); refine wpQuiet_nil ?_ -- 46 pick
  refine seg_held _ rfl ?_; go_big_quiet_step (fail); refine wpQuiet_nil ?_ -- 47 move
  refine seg_loud _ rfl rfl ?_; intro K hK -- 48 call harrier/harrierlaw01.lives
  go_wp2_with fail
  refine (lives1_calls _).mono ?_
  rintro e w11 ⟨rfl, hb11⟩
  have hq11 := (SB.refl (Nat.le_refl _)).step hb11
  have hbz := below_next hb hb11
  go_wp2_with fail
  refine ⟨_, fun _ h => h, inC hq11, ?_⟩
  refine seg_held _ rfl ?_; go_big_quiet_step (fail); refine wpQuiet_nil ?_ -- 49 pick
  refine seg_held _ rfl ?_; go_big_quiet_step (fail); refine wpQuiet_nil ?_ -- 50 assign
  refine seg_nil ?_
  go_wp2
  go_ret
  exact ⟨rfl, hbz⟩
end Go.Proofs.Ytkibjkpmdlikiaa
