/- The walks of package tlv, sixth part: the same parts. -/
import Derived.Test.YtmenonijbcljdaaTlvf
import Derived.Test.YtmenonijbcljdaaOwnt
namespace Go.Proofs.Ytmenonijbcljdaa
open Go.RowKit Go.Mix Go.Bas

set_option maxRecDepth 8000 in
set_option maxHeartbeats 1000000 in
theorem Same_calls (A : Option Addr) (n c : Nat) (A2 : Option Addr) (n2 c2 : Nat) (L : List (Int × List UInt8)) (w : World) (h : Tls w A n c L) (h2 : Tls w A2 n2 c2 L) :
    Calls Try.prog 28 #[.slice A n c, .slice A2 n2 c2] w fun e w' => e = .returned (.bool true) ∧ Below w.heap.size w w' := by
  have hc1 := h.cap
  have hc2 := h.most
  obtain rfl : n2 = n := by rw [h2.len, h.len]
  have hle : n2 ≤ L.length := Nat.le_of_eq h.len
  have hge : L.length ≤ n2 := Nat.le_of_eq h.len.symm
  have HH := hid h
  have HH2 := hid h2
  clear h h2
  go_enter Try.func28, Try.ntmps28
  go_wp2_with fail
  go_loopw [5] (fun k wr => ∃ (j : Nat), j ≤ n2 ∧ k = .int .i64 j ∧ Below w.heap.size w wr) (fun k _ => n2 - (intOf k).toNat)
  case atStart => exact ⟨0, by omega, rfl, Below.refl _ _⟩
  case round =>
    obtain ⟨j, hj, rfl, hbw⟩ := hrel
    have hsr := hbw.size
    by_cases hlt : j < n2
    · have hlt' : (j : Int) < n2 := by omega
      obtain ⟨b, off, rfl, hb, hx, A3, n3, c3, hy, hbs⟩ := (HH.out.step hbw).rd j (by omega)
      obtain ⟨b2, off2, rfl, hb2, hx2, A4, n4, c4, hy2, hbs2⟩ := (HH2.out.step hbw).rd j (by omega)
      generalize L[j] = p at *
      obtain ⟨kd, dt⟩ := p
      dsimp only at hx hx2 hbs hbs2
      have HBW := hid hbw
      clear hbw
      have hne : Nonempty (SBW wr.heap.size wr) := Cls.ne (SB.refl (Nat.le_refl _))
      have f0 : ∀ u : SBW wr.heap.size wr, u.w.cell? ⟨b, off + j * 2, none⟩ = some (.int .i64 kd) := fun u => u.cell hx hb
      have f1 : ∀ u : SBW wr.heap.size wr, u.w.cell? ⟨b2, off2 + j * 2, none⟩ = some (.int .i64 kd) := fun u => u.cell hx2 hb2
      have f2 : ∀ u : SBW wr.heap.size wr, u.w.cell? ⟨b, off + j * 2 + 1, none⟩ = some (.slice A3 n3 c3) := fun u => u.cell hy hb
      have f3 : ∀ u : SBW wr.heap.size wr, u.w.cell? ⟨b2, off2 + j * 2 + 1, none⟩ = some (.slice A4 n4 c4) := fun u => u.cell hy2 hb2
      have f4 : ∀ u : SBW wr.heap.size wr, (convert 22 9 (.slice A3 n3 c3)).run Try.prog u.w = .ok (str dt) u.w := fun u => run_string (P := Try.prog) 22 5 9 Try.underlying22 Try.underlying5 Try.underlying9 (hbs.inS (Nat.le_refl _) u)
      have f5 : ∀ u : SBW wr.heap.size wr, (convert 22 9 (.slice A4 n4 c4)).run Try.prog u.w = .ok (str dt) u.w := fun u => run_string (P := Try.prog) 22 5 9 Try.underlying22 Try.underlying5 Try.underlying9 (hbs2.inS (Nat.le_refl _) u)
      clear hx hx2 hy hy2
      go_wp2_with fail
      have hq := SB.start (w0 := wr) (Nat.le_refl _)
      refine wp_region_segs (fun w2 => ∃ u : SBW wr.heap.size wr, w2 = u.w) ((0, 0) :: (1, 0) :: (2, 0) :: (3, 0) :: (4, 0) :: (5, 0) :: (6, 0) :: (7, 0) :: (8, 0) :: (9, 0) :: (10, 0) :: (11, 0) :: (12, 0) :: (13, 0) :: (14, 0) :: (15, 0) :: (16, 0) :: (17, 0) :: (18, 0) :: (19, 0) :: (20, 0) :: (21, 0) :: (22, 0) :: (23, 0) :: (24, 0) :: (25, 0) :: []) (by kernel_rfl) (by kernel_rfl) (by kernel_rfl) (by kernel_rfl) (inC hq) ?_
      refine seg_held _ rfl ?_; go_big_quiet_step (fail); refine wpQuiet_nil ?_ -- 0 move
      refine seg_held _ rfl ?_; go_big_quiet_step (fail); refine wpQuiet_nil ?_ -- 1 move
      refine seg_held _ rfl ?_; go_big_quiet_step (fail); refine wpQuiet_nil ?_ -- 2 indexAddr
      refine seg_held _ rfl ?_; go_big_quiet_step (fail); refine wpQuiet_nil ?_ -- 3 fieldAddr
      refine seg_held _ rfl ?_; go_big_quiet_step (fail); refine wpQuiet_nil ?_ -- 4 load
      refine seg_held _ rfl ?_; go_big_quiet_step (fail); refine wpQuiet_nil ?_ -- 5 move
      refine seg_held _ rfl ?_; go_big_quiet_step (fail); refine wpQuiet_nil ?_ -- 6 move
      refine seg_held _ rfl ?_; go_big_quiet_step (fail); refine wpQuiet_nil ?_ -- 7 indexAddr
      refine seg_held _ rfl ?_; go_big_quiet_step (fail); refine wpQuiet_nil ?_ -- 8 fieldAddr
      refine seg_held _ rfl ?_; go_big_quiet_step (fail); refine wpQuiet_nil ?_ -- 9 load
      refine seg_held _ rfl ?_; go_big_quiet_step (fail); refine wpQuiet_nil ?_ -- 10 binOp
      refine seg_held _ rfl ?_; go_big_quiet_step (fail); refine wpQuiet_nil ?_ -- 11 move
      refine seg_held _ rfl ?_; go_big_quiet_step (fail); refine wpQuiet_nil ?_ -- 12 move
      refine seg_held _ rfl ?_; go_big_quiet_step (fail); refine wpQuiet_nil ?_ -- 13 move
      refine seg_held _ rfl ?_; go_big_quiet_step (fail); refine wpQuiet_nil ?_ -- 14 indexAddr
      refine seg_held _ rfl ?_; go_big_quiet_step (fail); refine wpQuiet_nil ?_ -- 15 fieldAddr
      refine seg_held _ rfl ?_; go_big_quiet_step (fail); refine wpQuiet_nil ?_ -- 16 load
      refine seg_held _ rfl ?_; go_big_quiet_step (fail); refine wpQuiet_nil ?_ -- 17 convert
      refine seg_held _ rfl ?_; go_big_quiet_step (fail); refine wpQuiet_nil ?_ -- 18 move
      refine seg_held _ rfl ?_; go_big_quiet_step (fail); refine wpQuiet_nil ?_ -- 19 move
      refine seg_held _ rfl ?_; go_big_quiet_step (fail); refine wpQuiet_nil ?_ -- 20 indexAddr
      refine seg_held _ rfl ?_; go_big_quiet_step (fail); refine wpQuiet_nil ?_ -- 21 fieldAddr
      refine seg_held _ rfl ?_; go_big_quiet_step (fail); refine wpQuiet_nil ?_ -- 22 load
      refine seg_held _ rfl ?_; go_big_quiet_step (fail); refine wpQuiet_nil ?_ -- 23 convert
      refine seg_held _ rfl ?_; go_big_quiet_step (fail); refine wpQuiet_nil ?_ -- 24 binOp
      refine seg_held _ rfl ?_; go_big_quiet_step (fail); refine wpQuiet_nil ?_ -- 25 pick
      refine seg_nil ?_
      have hbz := HBW.out.trans (hq.1.mono hsr)
      clear hne f0 f1 f2 f3 f4 f5 hbs hbs2
      go_wp2
      go_roundw
      case rel => exact ⟨j + 1, by omega, by go_num, hbz⟩
      case measure => simp [intOf]; omega
    · have hlt' : ¬ ((j : Int) < n2) := by omega
      go_wp2
      go_ret
      exact ⟨rfl, hbw⟩
end Go.Proofs.Ytmenonijbcljdaa
