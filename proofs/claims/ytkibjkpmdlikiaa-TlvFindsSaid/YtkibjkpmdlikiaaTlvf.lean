/- The laws of layer 9: finds, puts. -/
import Derived.Test.YtkibjkpmdlikiaaTlve
namespace Go.Proofs.Ytkibjkpmdlikiaa
open Go.RowKit Go.Mix Go.Bas

theorem tls_one {w : World} {A : Option Addr} {n c : Nat} {kd : Int} {dt : List UInt8} {g : Nat} (hg : g = w.heap.size) (h : Bs w A n c dt) :
    Tls (w.alloc (.cells #[.int .i64 kd, .slice A n c] 67)) (some ⟨g, 0, none⟩) 1 1 [(kd, dt)] :=
  ⟨rfl, Nat.le_refl _, by omega, fun j hj => by
    subst hg
    have : j = 0 := by simpa using hj
    subst this
    exact ⟨w.heap.size, 0, rfl, by simp, by simp, A, n, c, by simp, h.alloc _⟩⟩

theorem put_ex : put [(5, [9])] = ([5, 1, 9, 4, 3, 0, 0, 0], 0) := by decide +kernel

set_option maxHeartbeats 1000000 in
theorem lives9_calls (w : World) :
    Calls Try.prog 46 #[] w fun e w' => e = .returned (.bool true) ∧ Below w.heap.size w w' := by
  go_enter Try.func46, Try.ntmps46
  go_wp2_with fail
  have hm : Bs (w.alloc (.cells #[.int .u8 9] 5)) (some ⟨w.heap.size, 0, none⟩) 1 1 [9] := made_bs w 5 [9] #[.int .u8 9] rfl rfl rfl (by simp)
  have ht := tls_one (kd := 5) (g := w.heap.size + 1) (by simp) hm
  refine (Put_calls _ _ _ [(5, [9])] _ ht).mono ?_; rintro e w1 ⟨A1, n1, c1, rfl, ho1, hb1⟩
  rw [put_ex] at ho1 ⊢
  have hb1' := below_next (((Below.refl w.heap.size w).alloc (Nat.le_refl _) (.cells #[.int .u8 9] 5)).alloc (by simp) (.cells #[.int .i64 5, .slice (some ⟨w.heap.size, 0, none⟩) 1 1] 67)) hb1
  have hs1 := hb1'.size
  clear hb1 hm
  go_wp2_with fail
  refine (Parse4_calls w1.heap.size _ (by simp) (by simp) (by simp) (by simp)).mono ?_; rintro e w2 ⟨rfl, rfl⟩
  have hstr := run_string (P := Try.prog) 22 5 9 Try.underlying22 Try.underlying5 Try.underlying9 (ho1.alloc (.cells #[.int .u8 0, .int .u8 4, .int .u8 0, .int .u8 7] 5)).bs
  rw [show str [5, 1, 9, 4, 3, 0, 0, 0] = .string ⟨#[5, 1, 9, 4, 3, 0, 0, 0]⟩ from rfl] at hstr
  have hb2 := hb1'.alloc hs1 (.cells #[.int .u8 0, .int .u8 4, .int .u8 0, .int .u8 7] 5)
  clear ho1 hb1' hs1
  go_wp2_with fail
  refine (Pad_calls 9 _).mono ?_; rintro e w3 ⟨A3, n3, c3, rfl, ho3, hb3⟩
  obtain rfl : n3 = 9 := by rw [ho3.len]; decide +kernel
  have hb3' := below_next hb2 hb3
  have hs3 := hb3'.size
  clear hb3 hstr ho3 hb2
  go_wp2_with fail
  refine (Can_calls _ _ _ [(4, [])] _ (tls_one rfl (Bs.nil _ _ _ (by omega)))).mono ?_; rintro e w4 ⟨rfl, hb4⟩
  rw [show can 256 [(4, [])] = 2 from by decide +kernel]
  have hb4' := below_next (hb3'.alloc hs3 _) hb4
  clear hb4
  go_wp2
  go_ret
  exact ⟨rfl, hb4'⟩

theorem put_snd (L : List (Int × List UInt8)) : (put L).2 = can 256 L := by
  unfold put
  split
  · rw [‹can 256 L = 0›]
  · rfl

set_option maxHeartbeats 1000000 in
theorem TlvPuts_calls (A : Option Addr) (n c : Nat) (L : List (Int × List UInt8)) (k : Int) (w : World) (h : Tls w A n c L) :
    Calls Try.prog 11 #[.slice A n c, .int .i64 k] w fun e w' => e = .returned (.bool true) ∧ Below w.heap.size w w' := by
  have hc1 := h.cap
  have hc2 := h.most
  by_cases hn : 200 < n
  · go_enter Try.func11, Try.ntmps11
    go_wp2_with fail
    refine (lives9_calls _).mono ?_; rintro e w1 ⟨rfl, hb1⟩
    go_wp2
    go_ret
    exact ⟨rfl, hb1⟩
  · go_enter Try.func11, Try.ntmps11
    go_wp2_with fail
    refine (Put_calls _ _ _ L _ h).mono ?_; rintro e w1 ⟨A1, n1, c1, rfl, ho1, hb1⟩
    go_wp2_with fail
    refine (rPut_calls _ _ _ L _ (h.step hb1)).mono ?_; rintro e w2 ⟨A2, n2, c2, rfl, ho2, hb2⟩
    have hb2' := below_next hb1 hb2
    have ho1' := ho1.step hb2
    clear hb1 hb2 ho1
    have hT := h.step hb2'
    have hE := put_snd L
    have hS := hb2'.size
    rw [hE]
    clear hE h
    generalize hpe : can 256 L = pe at *
    have EP := hid hpe
    generalize (put L).1 = pl at *
    have bA := ho1'.bs
    have bB := ho2.bs
    have HB := hid hb2'
    clear hpe ho1' ho2 hb2'
    go_wp2_with fail
    have hne : Nonempty (SBW w2.heap.size w2) := Cls.ne (SB.refl (Nat.le_refl _))
    have fb0 : ∀ u : SBW w2.heap.size w2, (convert 22 9 (.slice A1 n1 c1)).run Try.prog u.w = .ok (str pl) u.w := fun u => run_string (P := Try.prog) 22 5 9 Try.underlying22 Try.underlying5 Try.underlying9 (bA.inS (Nat.le_refl _) u)
    have fb1 : ∀ u : SBW w2.heap.size w2, (convert 22 9 (.slice A2 n2 c2)).run Try.prog u.w = .ok (str pl) u.w := fun u => run_string (P := Try.prog) 22 5 9 Try.underlying22 Try.underlying5 Try.underlying9 (bB.inS (Nat.le_refl _) u)
    have hq := SB.start (w0 := w2) (Nat.le_refl _)
    refine wp_region_segs (fun w1 => ∃ u : SBW w2.heap.size w2, w1 = u.w) ((0, 0) :: (2, 0) :: (1, 1) :: (3, 0) :: (4, 0) :: (5, 0) :: (6, 0) :: (7, 0) :: (8, 0) :: (9, 0) :: (10, 0) :: (11, 0) :: (12, 0) :: (13, 0) :: (14, 0) :: (15, 0) :: (16, 0) :: (17, 0) :: (20, 0) :: (18, 1) :: (19, 0) :: (21, 1) :: (22, 0) :: (23, 0) :: (24, 0) :: (25, 0) :: (26, 1) :: (27, 0) :: (28, 0) :: []) (by kernel_rfl) (by kernel_rfl) (by kernel_rfl) (by kernel_rfl) (inC hq) ?_
    refine seg_held _ rfl ?_; go_big_quiet_step (fail); refine wpQuiet_nil ?_ -- 0 move
    refine seg_held _ rfl ?_; go_big_quiet_step (fail); refine wpQuiet_nil ?_ -- 2 move
    refine seg_loud _ rfl rfl ?_; intro K hK -- 1 call harrier/tlv.Can
    go_wp2_with fail
    refine (Can_calls _ _ _ L _ (hT.step hq.1)).mono ?_
    rintro e w' ⟨rfl, hb'⟩
    rw [EP.out]
    go_wp2_with fail
    replace hq := hq.step hb'
    clear hb'
    refine ⟨_, fun _ h => h, inC hq, ?_⟩
    refine seg_held _ rfl ?_; go_big_quiet_step (fail); refine wpQuiet_nil ?_ -- 3 binOp
    refine seg_held _ rfl ?_; go_big_quiet_step (fail); refine wpQuiet_nil ?_ -- 4 move
    refine seg_held _ rfl ?_; go_big_quiet_step (fail); refine wpQuiet_nil ?_ -- 5 move
    refine seg_held _ rfl ?_; go_big_quiet_step (fail); refine wpQuiet_nil ?_ -- 6 convert
    refine seg_held _ rfl ?_; go_big_quiet_step (fail); refine wpQuiet_nil ?_ -- 7 move
    refine seg_held _ rfl ?_; go_big_quiet_step (fail); refine wpQuiet_nil ?_ -- 8 convert
    refine seg_held _ rfl ?_; go_big_quiet_step (fail); refine wpQuiet_nil ?_ -- 9 binOp
    refine seg_held _ rfl ?_; go_big_quiet_step (fail); refine wpQuiet_nil ?_ -- 10 pick
    refine seg_held _ rfl ?_; go_big_quiet_step (fail); refine wpQuiet_nil ?_ -- 11 move
    refine seg_held _ rfl ?_; go_big_quiet_step (fail); refine wpQuiet_nil ?_ -- 12 move
    refine seg_held _ rfl ?_; go_big_quiet_step (fail); refine wpQuiet_nil ?_ -- 13 move
    refine seg_held _ rfl ?_; go_big_quiet_step (fail); refine wpQuiet_nil ?_ -- 14 binOp
    refine seg_held _ rfl ?_; go_big_quiet_step (fail); refine wpQuiet_nil ?_ -- 15 pick
    refine seg_held _ rfl ?_; go_big_quiet_step (fail); refine wpQuiet_nil ?_ -- 16 move
    refine seg_held _ rfl ?_; go_big_quiet_step (fail); refine wpQuiet_nil ?_ -- 17 move
    refine seg_held _ rfl ?_; go_big_quiet_step (fail); refine wpQuiet_nil ?_ -- 20 move
    refine seg_loud _ rfl rfl ?_; intro K hK -- 18 call harrier/tlv.Pad
    go_wp2_with fail
    refine (Pad_calls _ _).mono ?_
    rintro e w5 ⟨A5, n5, c5, rfl, ho5, hb5⟩
    have hq5 := hq.step hb5
    have b5 := ho5.bs
    go_wp2_with fail
    refine ⟨fun w1 => ∃ u : SBW w5.heap.size w5, w1 = u.w, subC (fun _ h => hq5.sub hq5.2 h), inC (SB.refl (Nat.le_refl _)), ?_⟩
    clear hne fb0 fb1 hq hb5 ho5
    have hne : Nonempty (SBW w5.heap.size w5) := Cls.ne (SB.refl (Nat.le_refl _))
    have fs : ∀ u : SBW w5.heap.size w5, (convert 22 9 (.slice A5 n5 c5)).run Try.prog u.w = .ok (str (pad k)) u.w := fun u => run_string (P := Try.prog) 22 5 9 Try.underlying22 Try.underlying5 Try.underlying9 (b5.inS (Nat.le_refl _) u)
    refine seg_held _ rfl ?_; go_big_quiet_step (fail); refine wpQuiet_nil ?_ -- 19 convert
    refine seg_loud _ rfl rfl ?_; intro K hK -- 21 call harrier/harrierref09.Pad
    go_wp2_with fail
    refine (rPad_calls _ _).mono ?_
    rintro e w6 ⟨A6, n6, c6, rfl, ho6, hb6⟩
    have hq6 := (SB.refl (B := w5.heap.size) (w0 := w5) (Nat.le_refl _)).step hb6
    have b6 := ho6.bs
    go_wp2_with fail
    refine ⟨fun w1 => ∃ u : SBW w6.heap.size w6, w1 = u.w, subC (fun _ h => hq6.sub hq6.2 h), inC (SB.refl (Nat.le_refl _)), ?_⟩
    clear hne fs hb6 ho6
    have hne : Nonempty (SBW w6.heap.size w6) := Cls.ne (SB.refl (Nat.le_refl _))
    have fs : ∀ u : SBW w6.heap.size w6, (convert 22 9 (.slice A6 n6 c6)).run Try.prog u.w = .ok (str (pad k)) u.w := fun u => run_string (P := Try.prog) 22 5 9 Try.underlying22 Try.underlying5 Try.underlying9 (b6.inS (Nat.le_refl _) u)
    refine seg_held _ rfl ?_; go_big_quiet_step (fail); refine wpQuiet_nil ?_ -- 22 convert
    refine seg_held _ rfl ?_; go_big_quiet_step (fail); refine wpQuiet_nil ?_ -- 23 binOp
    refine seg_held _ rfl ?_; go_big_quiet_step (fail); refine wpQuiet_nil ?_ -- 24 pick
    refine seg_held _ rfl ?_; go_big_quiet_step (fail); refine wpQuiet_nil ?_ -- 25 move
    refine seg_loud _ rfl rfl ?_; intro K hK -- 26 call harrier/harrierlaw09.lives
    go_wp2_with fail
    refine (lives9_calls _).mono ?_
    rintro e w7 ⟨rfl, hb7⟩
    go_wp2_with fail
    refine ⟨_, fun _ h => h, inC ((SB.refl (Nat.le_refl _)).step hb7), ?_⟩
    refine seg_held _ rfl ?_; go_big_quiet_step (fail); refine wpQuiet_nil ?_ -- 27 pick
    refine seg_held _ rfl ?_; go_big_quiet_step (fail); refine wpQuiet_nil ?_ -- 28 assign
    refine seg_nil ?_
    have hbz := below_next (below_next (HB.out.trans (hq5.1.mono hS)) (hq6.1.mono (Nat.le_refl _))) hb7
    clear hne fs
    go_wp2
    go_ret
    exact ⟨rfl, hbz⟩

set_option maxHeartbeats 1000000 in
theorem TlvFinds_calls (A : Option Addr) (n c : Nat) (L : List (Int × List UInt8)) (kind : Int) (w : World) (h : Tls w A n c L) (hsz : ∀ p ∈ L, p.2.length ≤ 140737488355328) :
    Calls Try.prog 14 #[.slice A n c, .int .i64 kind] w fun e w' => e = .returned (.bool true) ∧ Below w.heap.size w w' := by
  have hc1 := h.cap
  have hc2 := h.most
  by_cases hn : 200 < n
  · go_enter Try.func14, Try.ntmps14
    go_wp2_with fail
    refine (lives9_calls _).mono ?_; rintro e w1 ⟨rfl, hb1⟩
    go_wp2
    go_ret
    exact ⟨rfl, hb1⟩
  · go_enter Try.func14, Try.ntmps14
    go_wp2_with fail
    refine (Find_calls _ _ _ L _ _ h hsz).mono ?_; rintro e w1 ⟨A1, n1, c1, rfl, ho1, hb1⟩
    have hle : n ≤ L.length := Nat.le_of_eq h.len
    have hge : L.length ≤ n := Nat.le_of_eq h.len.symm
    have HT := hid (h.step hb1)
    have HO := hid ho1
    have HB := hid hb1
    have hS := hb1.size
    clear h ho1 hb1 hsz
    go_wp2_with fail
    go_loop [7] (fun k => ∃ (j : Nat), j ≤ n ∧ k = .int .i64 j ∧ Hid (find (L.drop j) kind = find L kind)) (fun k => n - (intOf k).toNat)
    case atStart => exact ⟨0, by omega, rfl, hid (by simp)⟩
    case round =>
      obtain ⟨j, hj, rfl, hf⟩ := hrel
      by_cases hlt : j < n
      · have hlt' : (j : Int) < n := by omega
        obtain ⟨b, off, rfl, hb, hx, A2, n2, c2, hy, hbs⟩ := HT.out.rd j (by omega)
        have hd := find_drop (L := L) (j := j) (by omega) kind
        rw [hf.out] at hd
        generalize L[j] = p at *
        obtain ⟨kd, dt⟩ := p
        dsimp only at hx hd hbs
        have HD := hid hd
        have HBS := hid hbs
        clear hd hbs hf
        by_cases k1 : kd = kind
        · subst k1
          have e := HD.out
          rw [if_pos rfl] at e
          have ho := HO.out
          rw [e] at ho
          have bA : Bs w1 A1 n1 c1 dt := ho.bs
          have hsome : (find L kd).isSome = true := by rw [e]; rfl
          have bB := HBS.out
          rw [hsome]
          clear e ho HD
          go_wp2_with fail
          have hne : Nonempty (SBW w1.heap.size w1) := Cls.ne (SB.refl (Nat.le_refl _))
          have fb0 : ∀ u : SBW w1.heap.size w1, (convert 22 9 (.slice A1 n1 c1)).run Try.prog u.w = .ok (str dt) u.w := fun u => run_string (P := Try.prog) 22 5 9 Try.underlying22 Try.underlying5 Try.underlying9 (bA.inS (Nat.le_refl _) u)
          have fb1 : ∀ u : SBW w1.heap.size w1, (convert 22 9 (.slice A2 n2 c2)).run Try.prog u.w = .ok (str dt) u.w := fun u => run_string (P := Try.prog) 22 5 9 Try.underlying22 Try.underlying5 Try.underlying9 (bB.inS (Nat.le_refl _) u)
          have fc : ∀ u : SBW w1.heap.size w1, u.w.cell? ⟨b, off + j * 2 + 1, none⟩ = some (.slice A2 n2 c2) := fun u => u.cell hy hb
          have hq := SB.start (w0 := w1) (Nat.le_refl _)
          refine wp_region_segs (fun w2 => ∃ u : SBW w1.heap.size w1, w2 = u.w) ((0, 0) :: (1, 0) :: (2, 0) :: (3, 0) :: (4, 0) :: (5, 0) :: (6, 0) :: (7, 0) :: (8, 0) :: (9, 0) :: (10, 0) :: (11, 0) :: (12, 0) :: (13, 1) :: (14, 0) :: (15, 0) :: []) (by kernel_rfl) (by kernel_rfl) (by kernel_rfl) (by kernel_rfl) (inC hq) ?_
          refine seg_held _ rfl ?_; go_big_quiet_step (fail); refine wpQuiet_nil ?_ -- 0 move
          refine seg_held _ rfl ?_; go_big_quiet_step (fail); refine wpQuiet_nil ?_ -- 1 move
          refine seg_held _ rfl ?_; go_big_quiet_step (fail); refine wpQuiet_nil ?_ -- 2 move
          refine seg_held _ rfl ?_; go_big_quiet_step (fail); refine wpQuiet_nil ?_ -- 3 convert
          refine seg_held _ rfl ?_; go_big_quiet_step (fail); refine wpQuiet_nil ?_ -- 4 move
          refine seg_held _ rfl ?_; go_big_quiet_step (fail); refine wpQuiet_nil ?_ -- 5 move
          refine seg_held _ rfl ?_; go_big_quiet_step (fail); refine wpQuiet_nil ?_ -- 6 indexAddr
          refine seg_held _ rfl ?_; go_big_quiet_step (fail); refine wpQuiet_nil ?_ -- 7 fieldAddr
          refine seg_held _ rfl ?_; go_big_quiet_step (fail); refine wpQuiet_nil ?_ -- 8 load
          refine seg_held _ rfl ?_; go_big_quiet_step (fail); refine wpQuiet_nil ?_ -- 9 convert
          refine seg_held _ rfl ?_; go_big_quiet_step (fail); refine wpQuiet_nil ?_ -- 10 binOp
          refine seg_held _ rfl ?_; go_big_quiet_step (fail); refine wpQuiet_nil ?_ -- 11 pick
          refine seg_held _ rfl ?_; go_big_quiet_step (fail); refine wpQuiet_nil ?_ -- 12 move
          refine seg_loud _ rfl rfl ?_; intro K hK -- 13 call harrier/harrierlaw09.lives
          go_wp2_with fail
          refine (lives9_calls _).mono ?_
          rintro e w' ⟨rfl, hb'⟩
          go_wp2_with fail
          replace hq := hq.step hb'; clear hb'
          refine ⟨_, fun _ h => h, inC hq, ?_⟩
          refine seg_held _ rfl ?_; go_big_quiet_step (fail); refine wpQuiet_nil ?_ -- 14 pick
          refine seg_held _ rfl ?_; go_big_quiet_step (fail); refine wpQuiet_nil ?_ -- 15 assign
          refine seg_nil ?_
          have hbz := HB.out.trans (hq.1.mono hS)
          clear hne fb0 fb1 fc
          go_wp2
          go_ret
          exact ⟨rfl, hbz⟩
        · have e := HD.out
          rw [if_neg k1] at e
          have E := hid e.symm
          clear e HD
          go_wp2
          go_round
          case rel => exact ⟨j + 1, by omega, by go_num, E⟩
          case measure => simp [intOf]; omega
      · have hlt' : ¬ ((j : Int) < n) := by omega
        have e : find L kind = none := by rw [← hf.out, List.drop_eq_nil_of_le (by omega), find]
        have hsome : (find L kind).isSome = false := by rw [e]; rfl
        have ho := HO.out
        rw [e] at ho
        obtain rfl : n1 = 0 := ho.len
        clear ho e
        rw [hsome]
        go_wp2_with fail
        refine (lives9_calls _).mono ?_; rintro e w7 ⟨rfl, hb7⟩
        have hb8 := below_next HB.out hb7
        clear hb7
        go_wp2
        go_ret
        exact ⟨rfl, hb8⟩
end Go.Proofs.Ytkibjkpmdlikiaa
