/- The laws of layer 2: what is fine. -/
import Derived.Test.YtkibjkpmdlikiaaCkslm
namespace Go.Proofs.Ytkibjkpmdlikiaa
open Go.RowKit Go.Mix Go.Bas

theorem stop_ld {P : Program} {ops : Array Oper} {o : Oper} {a : Act} {w : World} {rest : List Oper} {Q : Exit → Act → World → Prop} (t : TypeId) (x : Operand) (_ : o.op = .load t x) (h : Stop (wpList P ops Q (o :: rest) a w)) : wpList P ops Q (o :: rest) a w := h

set_option maxHeartbeats 4000000 in
theorem CksumFine_calls (en : List UInt8) (y z : Int) (A : Option Addr) (n c : Nat) (l : List UInt8) (w : World) (he : en.length = 32) (h : Bs w A n c l) (hsz : n ≤ 140737488355327) :
    Calls Try.prog 5 #[av en, .agg #[.int .i64 y, .int .i64 z], .slice A n c] w fun e w' => e = .returned (.bool true) ∧ Below w.heap.size w w' := by
  have hsz' : n ≤ 140737488355328 := by omega
  obtain ⟨src, hsrc⟩ : ∃ s, s = en.take 16 := ⟨_, rfl⟩
  obtain ⟨dst, hdst⟩ : ∃ s, s = en.drop 16 := ⟨_, rfl⟩
  have hs : src.length = 16 := by subst hsrc; simp; omega
  have hd : dst.length = 16 := by subst hdst; simp; omega
  have hb0 : Below w.heap.size w ((w.alloc (.cells (en.map bv).toArray 33)).alloc (.cells #[.int .i64 y, .int .i64 z] 34)) := ((Below.refl _ _).alloc (Nat.le_refl _) _).alloc (by simp) _
  have hce : ∀ j, j < en.length → ((w.alloc (.cells (en.map bv).toArray 33)).alloc (.cells #[.int .i64 y, .int .i64 z] 34)).cell? ⟨w.heap.size, j, none⟩ = some (.int .u8 (gt en j)) := fun j hj => by
    exact (((Below.refl _ _).alloc (B := (w.alloc (.cells (en.map bv).toArray 33)).heap.size) (Nat.le_refl _) _).cell (p := ⟨w.heap.size, j, none⟩) (by simp)).trans (cells_new w en 33 j hj)
  have hc0 : ((w.alloc (.cells (en.map bv).toArray 33)).alloc (.cells #[.int .i64 y, .int .i64 z] 34)).cell? ⟨w.heap.size + 1, 0, none⟩ = some (.int .i64 y) := by
    simp
  have hc1 : ((w.alloc (.cells (en.map bv).toArray 33)).alloc (.cells #[.int .i64 y, .int .i64 z] 34)).cell? ⟨w.heap.size + 1, 1, none⟩ = some (.int .i64 z) := by
    simp
  have hz : ((w.alloc (.cells (en.map bv).toArray 33)).alloc (.cells #[.int .i64 y, .int .i64 z] 34)).heap.size = w.heap.size + 2 := by simp
  have h0 := h.step hb0
  have hn := h0.len
  have hm := h0.most
  have hcp := h0.cap
  have HB0 := hid hb0
  have HLS := hid fun (w1 : World) (hb : Below ((w.alloc (.cells (en.map bv).toArray 33)).alloc (.cells #[.int .i64 y, .int .i64 z] 34)).heap.size ((w.alloc (.cells (en.map bv).toArray 33)).alloc (.cells #[.int .i64 y, .int .i64 z] 34)) w1) => end_src (w := w1) (b := w.heap.size) en he fun j hj => (hb.cell (p := ⟨w.heap.size, j, none⟩) (by show w.heap.size < _; omega)).trans (hce j hj)
  have HLD := hid fun (w1 : World) (hb : Below ((w.alloc (.cells (en.map bv).toArray 33)).alloc (.cells #[.int .i64 y, .int .i64 z] 34)).heap.size ((w.alloc (.cells (en.map bv).toArray 33)).alloc (.cells #[.int .i64 y, .int .i64 z] 34)) w1) => end_dst (w := w1) (b := w.heap.size) en he fun j hj => (hb.cell (p := ⟨w.heap.size, j, none⟩) (by show w.heap.size < _; omega)).trans (hce j hj)
  rw [← hsrc] at HLS
  rw [← hdst] at HLD
  have HS := hid hs
  have HD := hid hd
  clear hsrc hdst he hce hb0 hs hd
  unfold av
  go_enter Try.func5, Try.ntmps5
  by_cases k0 : y < 0
  · clear h0
    go_wp2_with fail
    refine (lives2_calls _).mono ?_; rintro e w2 ⟨rfl, q2⟩
    have hb2 := below_next HB0.out q2
    clear q2
    go_wp2
    go_ret
    exact ⟨rfl, hb2⟩
  · obtain ⟨j, rfl⟩ := Int.eq_ofNat_of_zero_le (by omega : 0 ≤ y)
    by_cases k1 : j % 2 = 1
    · have t1 : (((j : Nat) : Int).tmod 2 == 1) = true := by simp [Int.tmod_eq_emod_of_nonneg]; omega
      clear h0
      go_wp2_with fail
      refine (lives2_calls _).mono ?_; rintro e w2 ⟨rfl, q2⟩
      have hb2 := below_next HB0.out q2
      clear q2
      go_wp2
      go_ret
      exact ⟨rfl, hb2⟩
    · have t1 : (((j : Nat) : Int).tmod 2 == 1) = false := by simp [Int.tmod_eq_emod_of_nonneg]; omega
      by_cases k2 : (n : Int) - 1 ≤ j
      · clear h0
        go_wp2_with fail
        refine (lives2_calls _).mono ?_; rintro e w2 ⟨rfl, q2⟩
        have hb2 := below_next HB0.out q2
        clear q2
        go_wp2
        go_ret
        exact ⟨rfl, hb2⟩
      · obtain ⟨b, off, rfl, hb, hc⟩ := h0.at_ (by omega)
        have hx := hc j (by omega)
        have hy := hc (j + 1) (by omega)
        have hx0 := gt_lo l j
        have hx1 := gt_hi l j
        have hy0 := gt_lo l (j + 1)
        have hy1 := gt_hi l (j + 1)
        by_cases k3 : gt l j = 0
        · by_cases k4 : gt l (j + 1) = 0
          · rw [k3] at hx
            rw [k4] at hy
            have K3 := hid k3
            have K4 := hid k4
            have HN := hid hn
            have H0 := hid h0
            have HSZ := hid hsz'
            have HK1 := hid k1
            have t2 : (((j : Nat) : Int) % 2 == 1) = false := by simp; omega
            have t3 : ((j : Nat) : Int) + 1 < n := by omega
            clear k3 k4 hx0 hx1 hy0 hy1 hn hsz' hm hcp h0 h hc k1 hz
            go_wp2_with (with_reducible refine stop_ld 31 _ rfl ?_)
            refine Stop.on (wpList_ld rfl (av src) _ _ _ rfl rfl (HLS.out _ (Below.refl _ _)) ?_)
            go_wp2_with (with_reducible refine stop_ld 31 _ rfl ?_)
            refine Stop.on (wpList_ld rfl (av dst) _ _ _ rfl rfl (HLD.out _ (Below.refl _ _)) ?_)
            go_wp2_with fail
            refine (Check_calls src dst _ _ _ _ l _ HS.out HD.out H0.out HSZ.out).mono ?_; rintro e w1 ⟨rfl, q1⟩
            have c1 := (Below.refl ((w.alloc (.cells (en.map bv).toArray 33)).alloc (.cells #[.int .i64 (j : Nat), .int .i64 z] 34)).heap.size ((w.alloc (.cells (en.map bv).toArray 33)).alloc (.cells #[.int .i64 (j : Nat), .int .i64 z] 34))).trans q1
            have H1 := hid (H0.out.step q1)
            have hb1 := below_next HB0.out q1
            clear q1
            go_wp2_with fail
            refine (rSet16_calls _ _ _ l _ _ _ H1.out HSZ.out).mono ?_; rintro e w2 ⟨A2, n2, c2, rfl, ho2, q2⟩
            have c2' := c1.trans (q2.mono c1.size)
            have HQ := hid c2'
            have hb2 := below_next hb1 q2
            have es : set16 l (j : Int) (chk src dst z l) = (l.take j ++ (two (chk src dst z l) ++ l.drop (j + 2)), true) := by unfold set16; rw [if_pos (by have := HN.out; omega)]; simp
            rw [es] at ho2 ⊢
            have hx2 : Bs w2 A2 n2 c2 (l.take j ++ (two (chk src dst z l) ++ l.drop (j + 2))) := ho2.bs
            have E := hid (fine_law src dst z l j (by have := HN.out; omega) (by have := HK1.out; omega) K3.out K4.out)
            have hl2 : n2 ≤ 140737488355328 := by
              have := hx2.len
              have := HN.out
              simp [two] at *
              omega
            have HL2 := hid hl2
            have hcz := (c2'.cell (p := ⟨w.heap.size + 1, 1, none⟩) (by show w.heap.size + 1 < _; simp)).trans hc1
            clear es ho2 q2 c1 c2' hb1 hl2 hc0 hc1 hx hy H0 H1
            generalize hxs : l.take j ++ (two (chk src dst z l) ++ l.drop (j + 2)) = xs at *
            clear hxs
            go_wp2_with (with_reducible refine stop_ld 31 _ rfl ?_)
            refine Stop.on (wpList_ld rfl (av src) _ _ _ rfl rfl (HLS.out _ HQ.out) ?_)
            go_wp2_with (with_reducible refine stop_ld 31 _ rfl ?_)
            refine Stop.on (wpList_ld rfl (av dst) _ _ _ rfl rfl (HLD.out _ HQ.out) ?_)
            go_wp2_with fail
            refine (Fine_calls src dst _ _ _ _ xs _ HS.out HD.out hx2 HL2.out).mono ?_; rintro e w3 ⟨rfl, q3⟩
            rw [E.out]
            have hb3 := below_next hb2 q3
            clear q3
            go_wp2_with fail
            refine (lives2_calls _).mono ?_; rintro e w4 ⟨rfl, q4⟩
            have hb4 := below_next hb3 q4
            clear q4
            go_wp2
            go_ret
            exact ⟨rfl, hb4⟩
          · rw [k3] at hx
            have HN := hid hn
            have t2 : (((j : Nat) : Int) % 2 == 1) = false := by simp; omega
            have t3 : ((j : Nat) : Int) + 1 < n := by omega
            have t5 : ¬ (gt l (j + 1) = 0) := k4
            generalize gt l (j + 1) = g at *
            clear k3 k4 hx0 hx1 hy0 hy1 hn hsz' hm hcp h0 h hc k1 hz HLS HLD hc1
            go_wp2_with fail
            refine (lives2_calls _).mono ?_; rintro e w2 ⟨rfl, q2⟩
            have hb2 := below_next HB0.out q2
            clear q2
            go_wp2
            go_ret
            exact ⟨rfl, hb2⟩
        · have HN := hid hn
          have t2 : (((j : Nat) : Int) % 2 == 1) = false := by simp; omega
          have t3 : ((j : Nat) : Int) + 1 < n := by omega
          have t5 : ¬ (gt l j = 0) := k3
          generalize gt l j = g at *
          clear k3 hx0 hx1 hy0 hy1 hn hsz' hm hcp h0 h hc k1 hz HLS HLD hc1
          go_wp2_with fail
          refine (lives2_calls _).mono ?_; rintro e w2 ⟨rfl, q2⟩
          have hb2 := below_next HB0.out q2
          clear q2
          go_wp2
          go_ret
          exact ⟨rfl, hb2⟩
end Go.Proofs.Ytkibjkpmdlikiaa
