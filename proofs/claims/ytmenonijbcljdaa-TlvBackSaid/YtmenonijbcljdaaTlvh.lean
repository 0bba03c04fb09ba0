/- The walks of package tlv, seventh part: the parts of bytes, in the reference. -/
import Derived.Test.YtmenonijbcljdaaTlvg
import Derived.Test.YtmenonijbcljdaaTlvq
namespace Go.Proofs.Ytmenonijbcljdaa
open Go.RowKit Go.Mix Go.Bas

theorem Try.infot : (Try.prog.info? 105).map (fun i => (i.zero, i.size, i.bytes)) = some (some (.agg #[.int .i64 0, .slice none 0 0]), 2, 32) := by kernel_rfl

set_option maxRecDepth 8000 in
set_option maxHeartbeats 2000000 in
theorem rParse_calls (A : Option Addr) (n c : Nat) (l : List UInt8) (w : World) (h : Bs w A n c l) (hsz : n ≤ 4294967296) :
    Calls Try.prog 27 #[.slice A n c] w fun e w' => ∃ A' n' c', e = .returned (.tuple #[.slice A' n' c', .int .i64 (if (parse l).isSome then 0 else 3)]) ∧ Tls w' A' n' c' ((parse l).getD []) ∧ Below w.heap.size w w' := by
  obtain ⟨i0, hi, hz0, hz1, hz2⟩ := info_parts Try.infob
  have hc1 := h.cap
  have hc2 := h.most
  have hle : n ≤ l.length := Nat.le_of_eq h.len
  have hge : l.length ≤ n := Nat.le_of_eq h.len.symm
  have HH := hid h
  generalize hres : parse l = res at *
  have HR := hid hres
  clear h hres
  go_enter Try.func27, Try.ntmps27
  go_wp2_with fail
  go_loopw [4, 5] (fun o k wr => ∃ (j : Nat) (L0 : List (Int × List UInt8)) (A' : Option Addr) (n' c' : Nat), j ≤ n ∧ k = .int .i64 j ∧ o = .slice A' n' c' ∧ n' ≤ j ∧ Ots wr w.heap.size 105 5 A' n' c' L0 ∧ Hid ((parse (l.drop j)).map (L0 ++ ·) = res) ∧ Below w.heap.size w wr) (fun _ k _ => n - (intOf k).toNat)
  case atStart => exact ⟨0, [], _, _, _, by omega, rfl, rfl, by omega, Ots.nil _ _ _ _, hid (by simp [HR.out]), Below.refl _ _⟩
  case round =>
    obtain ⟨j, L0, A1, n1, c1, hj, rfl, rfl, hn1, ho, hp, hbw⟩ := hrel
    have hsr := hbw.size
    by_cases hlt : j < n
    · have hlt' : (j : Int) < n := by omega
      obtain ⟨b, off, rfl, hb, hc⟩ := (HH.out.step hbw).at_ (by omega)
      have hx := hc j (by omega)
      have y0 := gt_lo l j
      have y1 := gt_hi l j
      by_cases k0 : gt l j = 0
      · have e := hp.out
        rw [parse_zero (by omega) k0] at e
        have E := hid e
        rw [k0] at hx
        clear e hp k0 y0 y1 hc
        go_wp2
        go_roundw
        case rel => exact ⟨j + 1, L0, A1, n1, c1, by omega, by go_num, rfl, by omega, ho, E, hbw⟩
        case measure => simp [intOf]; omega
      · by_cases k1 : j + 1 = n
        · have e : res = none := by rw [← hp.out, parse_one (by omega) k0]; rfl
          subst e
          have hg0 : (gt l j == 0) = false := by simpa using k0
          have t1 : ((j : Int) == (n : Int) - 1) = true := by simp; omega
          have t2 : (j : Int) + 1 = n := by omega
          have T2 := hid t2
          clear hp hc k0 k1 t2 hle hge y0 y1
          generalize gt l j = g0 at *
          go_wp2
          go_ret2
          exact ⟨_, _, _, rfl, Tls.nil _ _ _ (by omega), hbw⟩
        · have hy := hc (j + 1) (by omega)
          have z0 := gt_lo l (j + 1)
          have z1 := gt_hi l (j + 1)
          have hg0 : (gt l j == 0) = false := by simpa using k0
          by_cases k2 : (n : Int) - j - 2 < gt l (j + 1)
          · have e : res = none := by rw [← hp.out, parse_short (by omega) k0 (by omega)]; rfl
            subst e
            have t1 : ((j : Int) == (n : Int) - 1) = false := by simp; omega
            have t2 : (j : Int) + 1 < n := by omega
            clear hp hc k0 k1 hle hge y0 y1
            generalize gt l j = g0 at *
            generalize gt l (j + 1) = g1 at *
            go_wp2
            go_ret2
            exact ⟨_, _, _, rfl, Tls.nil _ _ _ (by omega), hbw⟩
          · obtain ⟨m, hm⟩ := Int.eq_ofNat_of_zero_le z0
            have hpp := parse_part (l := l) (i := j) (by omega) k0 (by omega)
            rw [hm, Int.toNat_natCast] at hpp
            rw [hm] at hy z1 k2
            have hmn : j + 2 + m ≤ n := by omega
            have t1 : ((j : Int) == (n : Int) - 1) = false := by simp; omega
            have t2 : (j : Int) + 1 < n := by omega
            have t4 : ¬ ((n : Int) - j - 2 < m) := by omega
            have hnn : n1 + 2 ≤ 4294967296 := by omega
            by_cases k4 : gt l j = 4
            · rw [if_pos k4] at hpp
              have e := hp.out
              rw [hpp] at e
              have E := hid e
              rw [k4] at hx
              have HMN := hid hmn
              clear e hp hpp hc k0 k1 hle hge y0 y1 hm k4 k2 hg0 z0 hmn
              go_wp2
              go_roundw
              case rel => exact ⟨j + 2 + m, L0, A1, n1, c1, HMN.out, by go_num, rfl, by omega, ho, E, hbw⟩
              case measure => have := HMN.out; simp [intOf]; omega
            · rw [if_neg k4] at hpp
              have e := hp.out
              rw [hpp] at e
              have e' : (parse (l.drop (j + 2 + m))).map ((L0 ++ [(gt l j, (l.drop (j + 2)).take m)]) ++ ·) = res := by
                rw [← e, Option.map_map]
                congr 1
                funext x
                simp
              have E := hid e'
              have hg4 : (gt l j != 4) = true := by simpa using k4
              have HMN := hid hmn
              clear e e' hp hpp hc k0 k1 hle hge hm k4 k2 z0 hmn
              generalize hg : gt l j = g0 at *
              clear hg
              go_wp2_with fail
              have hbw0 : b < w.heap.size := by
                obtain ⟨b3, off3, e3, hb3, _⟩ := HH.out.at_ (by have := HMN.out; have := HH.out.len; omega)
                injection e3 with e3; injection e3 with e3 e4; subst e3; exact hb3
              obtain ⟨it, hit, ht0, ht1, ht2⟩ : ∃ it, Try.prog.info? 105 = some it ∧ it.zero = some (.agg #[.int .i64 0, .slice none 0 0]) ∧ it.size = 2 ∧ it.bytes = 32 := by
                have := Try.infot
                cases hq : Try.prog.info? 105 with
                | none => rw [hq] at this; cases this
                | some it => rw [hq] at this; injection this with this; injection this with a1 a2; injection a2 with a2 a3; exact ⟨it, rfl, a1, a2, a3⟩
              have hdt : Bs wr (sub (some ⟨b, off, none⟩) c (j + 2)) m (c - (j + 2)) ((l.drop (j + 2)).take m) := by
                have h9 := (HH.out.step hbw).sub (i := j + 2) (j := j + 2 + m) (c' := c - (j + 2)) (by omega) HMN.out (by have := HMN.out; omega) (by omega)
                rwa [Nat.add_sub_cancel_left] at h9
              have hsl := fun w => run_slice2 (P := Try.prog) 22 5 i0 Try.underlying22 hi hz1 (some ⟨b, off, none⟩) n c (j + 2) (j + 2 + m) .i64 .i64 ((j : Int) + 2) ((j : Int) + 2 + m) (by omega) (by omega) (by omega) (by have := HMN.out; omega) w
              rw [Nat.add_sub_cancel_left] at hsl
              have hne : Nonempty (SBW w.heap.size wr) := Cls.ne (SB.refl hsr)
              have f0 : ∀ u : SBW w.heap.size wr, u.w.cell? ⟨b, off + j, none⟩ = some (.int .u8 g0) := fun u => u.cell hx hbw0
              have hq := SB.start (w0 := wr) hsr
              have hoe : Own (wr.alloc (.cells #[] 5)).drew wr.heap.size 5 (some ⟨wr.heap.size, 0, none⟩) 0 0 [] := (Own.made_at wr _ [] #[] rfl rfl rfl (by simp) (Nat.le_refl _)).drew
              refine wp_region_segs (fun w2 => ∃ u : SBW w.heap.size wr, w2 = u.w) ((0, 0) :: (1, 0) :: (2, 0) :: (3, 0) :: (4, 0) :: (5, 0) :: (7, 0) :: (8, 0) :: (9, 0) :: (10, 0) :: (11, 0) :: (6, 1) :: (12, 1) :: (13, 0) :: (14, 1) :: (15, 1) :: (16, 0) :: []) (by kernel_rfl) (by kernel_rfl) (by kernel_rfl) (by kernel_rfl) (inC hq) ?_
              refine seg_held _ rfl ?_; go_big_quiet_step (fail); refine wpQuiet_nil ?_ -- 0 move
              refine seg_held _ rfl ?_; go_big_quiet_step (fail); refine wpQuiet_nil ?_ -- 1 move
              refine seg_held _ rfl ?_; go_big_quiet_step (fail); refine wpQuiet_nil ?_ -- 2 move
              refine seg_held _ rfl ?_; go_big_quiet_step (fail); refine wpQuiet_nil ?_ -- 3 indexAddr
              refine seg_held _ rfl ?_; go_big_quiet_step (fail); refine wpQuiet_nil ?_ -- 4 load
              refine seg_held _ rfl ?_; go_big_quiet_step (fail); refine wpQuiet_nil ?_ -- 5 convert
              refine seg_held _ rfl ?_; go_big_quiet_step (fail); refine wpQuiet_nil ?_ -- 7 move
              refine seg_held _ rfl ?_; go_big_quiet_step (fail); refine wpQuiet_nil ?_ -- 8 move
              refine seg_held _ rfl ?_; go_big_quiet_step (fail); refine wpQuiet_nil ?_ -- 9 binOp
              refine seg_held _ rfl ?_; go_big_quiet_step (fail); refine wpQuiet_nil ?_ -- 10 move
              refine seg_held _ rfl ?_; go_big_quiet_step (fail); refine wpQuiet_nil ?_ -- 11 slice
              refine seg_loud _ rfl rfl ?_; intro K hK -- 6 buildSlice
              go_wp2_with fail
              refine ⟨_, fun _ h => h, inC ((SB.refl hsr).alloc _).drew, ?_⟩
              refine seg_loud _ rfl rfl ?_; intro K hK -- 12 builtin:append
              refine wp_app (.tmp 57) (.tmp 62) 22 rfl 5 i0 Try.underlying22 hi hz0 hz1 hz2 wr.heap.size [] ((l.drop (j + 2)).take m) rfl rfl hoe (hdt.alloc _).drew (by omega) (by simp) (fun A2 n2 c2 w2 ho2 hg2 => hK _ _ ?_)
              have hq2 : Below wr.heap.size wr w2 := (((Below.refl _ _).alloc (Nat.le_refl _) _).drew).trans (below_grown hg2 hoe (Nat.le_refl _) (by simp))
              clear hg2
              rw [List.nil_append] at ho2
              have hq2s : SB w.heap.size wr w2 := (SB.refl hsr).low (hq2.mono hsr)
              refine ⟨_, fun _ h => h, inC hq2s, ?_⟩
              go_frame
              refine seg_held _ rfl ?_; go_big_quiet_step (fail); refine wpQuiet_nil ?_ -- 13 build
              refine seg_loud _ rfl rfl ?_; intro K hK -- 14 buildSlice
              go_wp2_with fail
              refine ⟨_, fun _ h => h, inC (hq2s.alloc _), ?_⟩
              refine seg_loud _ rfl rfl ?_; intro K hK -- 15 builtin:append
              have ho3 := (ho.step hq2).alloc (.cells #[.int .i64 g0, .slice A2 n2 c2] 105)
              have hq3 := hq2s.alloc (.cells #[.int .i64 g0, .slice A2 n2 c2] 105)
              refine wp_app_t (.tmp 51) (.tmp 65) 23 rfl it Try.underlying23 hit ht0 ht1 ht2 (by decide) (g2 := w2.heap.size) (kd := g0) rfl rfl ho3 (by simp) (by simp) (ho2.bs.alloc _) (ho2.alloc _).lies (by omega) hq3.2 (fun A4 n4 c4 w4 ho4 hg4 => hK _ _ ?_)
              have hg5 : Below w.heap.size _ w4 := (Below.refl _ _).grown hg4 hq3.2 (fun k hk => (ho3.block k hk).1)
              clear hg4
              refine ⟨_, fun _ h => h, inC (hq3.low hg5), ?_⟩
              go_frame
              refine seg_held _ rfl ?_; go_big_quiet_step (fail); refine wpQuiet_nil ?_ -- 16 assign
              refine seg_nil ?_
              have hbz := hbw.trans (hq3.low hg5).1
              have hn4 : n4 = n1 + 1 := by rw [ho4.len, ho.len]; simp
              clear hg5 hq3 hq2s hq2 ho2 ho3 hsl hne f0
              go_wp2
              go_roundw
              case rel => exact ⟨j + 2 + m, _, A4, n4, c4, HMN.out, by go_num, rfl, by omega, ho4, E, hbz⟩
              case measure => have := HMN.out; simp [intOf]; omega
    · have hlt' : ¬ ((j : Int) < n) := by omega
      have e : res = some L0 := by rw [← hp.out, parse_end (by omega)]; simp
      subst e
      clear hp
      go_wp2
      go_ret2
      exact ⟨_, _, _, rfl, ho.tls, hbw⟩
end Go.Proofs.Ytmenonijbcljdaa
