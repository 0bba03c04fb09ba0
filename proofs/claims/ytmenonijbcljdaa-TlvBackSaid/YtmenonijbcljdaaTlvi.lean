/- The walks of package tlv, eighth part: the parts of bytes, in the program. -/
import Derived.Test.YtmenonijbcljdaaTlvh
import Derived.Test.YtmenonijbcljdaaScope
namespace Go.Bas
open Go Go.RowKit Go.Mix
theorem Bs.rest {w : World} {A : Option Addr} {n c : Nat} {l : List UInt8} (h : Bs w A n c l) {i : Nat} (hi : i ≤ n) : Bs w (Bas.sub A c i) (n - i) (c - i) (l.drop i) := by
  have h1 := h.len
  have h2 := h.cap
  have h3 := h.most
  have := h.sub (i := i) (j := n) (c' := c - i) hi (Nat.le_refl _) (by omega) (by omega)
  rwa [List.take_of_length_le (by simp; omega)] at this
end Go.Bas
namespace Go.Proofs.Ytmenonijbcljdaa
open Go.RowKit Go.Mix Go.Bas

set_option maxRecDepth 8000 in
set_option maxHeartbeats 4000000 in
theorem Parse_calls (A : Option Addr) (n c : Nat) (l : List UInt8) (w : World) (h : Bs w A n c l) (hsz : n ≤ 4294967296) :
    Calls Try.prog 26 #[.slice A n c] w fun e w' => ∃ A' n' c', e = .returned (.tuple #[.slice A' n' c', .int .i64 (if (parse l).isSome then 0 else 3)]) ∧ Tls w' A' n' c' ((parse l).getD []) ∧ Below w.heap.size w w' := by
  obtain ⟨i0, hi, hz0, hz1, hz2⟩ := info_parts Try.infob
  have hc1 := h.cap
  have hc2 := h.most
  have hle : n ≤ l.length := Nat.le_of_eq h.len
  have hge : l.length ≤ n := Nat.le_of_eq h.len.symm
  have HH := hid h
  generalize hres : parse l = res at *
  have HR := hid hres
  clear h hres
  go_enter Try.func26, Try.ntmps26
  go_wp2_with fail
  refine wp_scope_body 0 (fun a' wr => ∃ (j : Nat) (L0 : List (Int × List UInt8)) (A' : Option Addr) (n' c' : Nat) (B' : Option Addr) (nb cb : Nat) (u5 u6 u7 u8 u9 u10 u11 u12 u13 u14 u15 u16 u17 u18 u19 u20 u21 u22 u23 u24 u25 u26 u27 u28 u29 u30 u31 u32 u33 u34 u35 u36 u37 u38 u39 u40 u41 u42 u43 u44 u45 u46 u47 u48 u49 u50 u51 u52 u53 u54 u55 : Value), a' = { tmps := #[.slice B' nb cb, undef, .slice none 0 0, .int .i64 0, .slice A' n' c', u5, u6, u7, u8, u9, u10, u11, u12, u13, u14, u15, u16, u17, u18, u19, u20, u21, u22, u23, u24, u25, u26, u27, u28, u29, u30, u31, u32, u33, u34, u35, u36, u37, u38, u39, u40, u41, u42, u43, u44, u45, u46, u47, u48, u49, u50, u51, u52, u53, u54, u55], defers := [] } ∧ j ≤ n ∧ n' ≤ j ∧ Bs w B' nb cb (l.drop j) ∧ Ots wr w.heap.size 105 5 A' n' c' L0 ∧ Hid ((parse (l.drop j)).map (L0 ++ ·) = res) ∧ Below w.heap.size w wr) (fun a' _ => match a'.tmps.getD 0 undef with | .slice _ n _ => n | _ => 0) rfl ?_ ?_
  · intro hpass
    have HP := hid hpass
    clear hpass
    go_wp2_with fail
    go_step3
    rename_i hK
    exact hK _ _ (HP.out _ _ ⟨0, [], none, 0, 0, A, n, c, _, _, _, _, _, _, _, _, _, _, _, _, _, _, _, _, _, _, _, _, _, _, _, _, _, _, _, _, _, _, _, _, _, _, _, _, _, _, _, _, _, _, _, _, _, _, _, _, _, _, _, rfl, Nat.zero_le _, Nat.le_refl _, HH.out, Ots.nil _ _ _ _, hid (by simpa using HR.out), Below.refl _ _⟩)
  · rintro a' wr ⟨j, L0, A1, n1, c1, B1, nb, cb, u5, u6, u7, u8, u9, u10, u11, u12, u13, u14, u15, u16, u17, u18, u19, u20, u21, u22, u23, u24, u25, u26, u27, u28, u29, u30, u31, u32, u33, u34, u35, u36, u37, u38, u39, u40, u41, u42, u43, u44, u45, u46, u47, u48, u49, u50, u51, u52, u53, u54, u55, rfl, hj, hn1, hbs, ho, hp, hbw⟩
    have hsr := hbw.size
    have hnb : nb = l.length - j := by rw [hbs.len, List.length_drop]
    have hcb1 := hbs.cap
    have hcb2 := hbs.most
    have HNB := hid hnb
    clear hnb
    by_cases hlt : nb = 0
    · subst hlt
      have hl := HNB.out
      have e : res = some L0 := by rw [← hp.out, parse_end (by omega)]; simp
      subst e
      clear hp hl
      go_wp2_with fail
      simp only [Exit.jump]
      go_ret2
      exact ⟨_, _, _, rfl, ho.tls, hbw⟩
    · have hl := HNB.out
      have t0 : ((nb : Int) == 0) = false := by simpa using hlt
      obtain ⟨b, off, rfl, hb, hc⟩ := (hbs.step hbw).at_ (by rw [List.length_drop]; omega)
      have hx := hc 0 (by rw [List.length_drop]; omega)
      rw [gt_drop, Nat.add_zero, Nat.add_zero] at hx
      have y0 := gt_lo l j
      have y1 := gt_hi l j
      have HBS := hid hbs
      have hnb1 : 1 ≤ nb := by omega
      by_cases k0 : gt l j = 0
      · have e := hp.out
        rw [parse_zero (by omega) k0] at e
        have E := hid e
        have hj1 : j + 1 ≤ n := by omega
        have hbs1 := hbs.rest (i := 1) (by omega)
        rw [List.drop_drop] at hbs1
        have hsl := fun w => run_slice1 (P := Try.prog) 22 5 i0 Try.underlying22 hi hz1 (some ⟨b, off, none⟩) nb cb 1 .i64 1 rfl (by omega) w
        rw [k0] at hx
        clear e hp k0 y0 y1 hc hl hle hge hbs
        go_wp2_with fail
        go_step3
        exact ⟨rfl, ⟨j + 1, L0, A1, n1, c1, _, _, _, _, _, _, _, _, _, _, _, _, _, _, _, _, _, _, _, _, _, _, _, _, _, _, _, _, _, _, _, _, _, _, _, _, _, _, _, _, _, _, _, _, _, _, _, _, _, _, _, _, _, _, rfl, hj1, by omega, hbs1, ho, E, hbw⟩, show nb - 1 < nb by omega⟩
      · have hg0 : (gt l j == 0) = false := by simpa using k0
        by_cases k1 : nb = 1
        · have e : res = none := by rw [← hp.out, parse_one (by omega) k0]; rfl
          subst e
          subst k1
          clear hp hc k0 hle hge y0 y1 hl
          generalize gt l j = g0 at *
          go_wp2_with fail
          simp only [Exit.jump]
          go_ret2
          exact ⟨_, _, _, rfl, Tls.nil _ _ _ (by omega), hbw⟩
        · have hy := hc 1 (by rw [List.length_drop]; omega)
          rw [gt_drop] at hy
          have z0 := gt_lo l (j + 1)
          have z1 := gt_hi l (j + 1)
          have t2 : ¬ ((nb : Int) < 2) := by omega
          by_cases k2 : (nb : Int) - 2 < gt l (j + 1)
          · have e : res = none := by rw [← hp.out, parse_short (by omega) k0 (by omega)]; rfl
            subst e
            clear hp hc k0 k1 hle hge y0 y1 hl
            generalize gt l j = g0 at *
            generalize gt l (j + 1) = g1 at *
            go_wp2_with fail
            simp only [Exit.jump]
            go_ret2
            exact ⟨_, _, _, rfl, Tls.nil _ _ _ (by omega), hbw⟩
          · obtain ⟨m, hm⟩ := Int.eq_ofNat_of_zero_le z0
            have hpp := parse_part (l := l) (i := j) (by omega) k0 (by omega)
            rw [hm, Int.toNat_natCast] at hpp
            rw [hm] at hy z1 k2
            have hmn : 2 + m ≤ nb := by omega
            have hj1 : j + (2 + m) ≤ n := by omega
            have hnn : n1 + 2 ≤ 4294967296 := by omega
            have hbs1 := hbs.rest (i := 2 + m) (by omega)
            rw [List.drop_drop] at hbs1
            have hsl1 := fun w => run_slice1 (P := Try.prog) 22 5 i0 Try.underlying22 hi hz1 (some ⟨b, off, none⟩) nb cb (2 + m) .i64 (2 + (m : Int)) (by omega) (by omega) w
            have E2 : j + 2 + m = j + (2 + m) := by omega
            rw [E2] at hpp
            clear E2
            by_cases k4 : gt l j = 4
            · rw [if_pos k4] at hpp
              have e := hp.out
              rw [hpp] at e
              have E := hid e
              rw [k4] at hx
              have HMN := hid hmn
              clear e hp hpp hc k0 k1 hle hge hm k4 hg0 z0 hl hbs
              go_wp2_with fail
              go_step3
              exact ⟨rfl, ⟨j + (2 + m), L0, A1, n1, c1, _, _, _, _, _, _, _, _, _, _, _, _, _, _, _, _, _, _, _, _, _, _, _, _, _, _, _, _, _, _, _, _, _, _, _, _, _, _, _, _, _, _, _, _, _, _, _, _, _, _, _, _, _, _, rfl, hj1, by omega, hbs1, ho, E, hbw⟩, show nb - (2 + m) < nb by omega⟩
            · rw [if_neg k4] at hpp
              have e := hp.out
              rw [hpp] at e
              have e' : (parse (l.drop (j + (2 + m)))).map ((L0 ++ [(gt l j, (l.drop (j + 2)).take m)]) ++ ·) = res := by
                rw [← e, Option.map_map]
                congr 1
                funext x
                simp
              have E := hid e'
              have hg4 : (gt l j != 4) = true := by simpa using k4
              have HMN := hid hmn
              have hdt := (hbs.step hbw).sub (i := 2) (j := 2 + m) (c' := cb - 2) (by omega) hmn (by omega) (by omega)
              rw [Nat.add_sub_cancel_left, List.drop_drop] at hdt
              have hsl := fun w => run_slice2 (P := Try.prog) 22 5 i0 Try.underlying22 hi hz1 (some ⟨b, off, none⟩) nb cb 2 (2 + m) .i64 .i64 2 (2 + (m : Int)) rfl (by omega) (by omega) (by omega) w
              rw [Nat.add_sub_cancel_left] at hsl
              have hbw0 : b < w.heap.size := by
                obtain ⟨b3, off3, e3, hb3, _⟩ := hbs.at_ (by rw [List.length_drop]; omega)
                injection e3 with e3; injection e3 with e3 e4; subst e3; exact hb3
              have hx2 : wr.cell? ⟨b, off, none⟩ = some (.int .u8 (gt l j)) := hx
              clear e e' hp hpp hc k0 k1 hle hge hm k4 z0 hl hbs hx
              generalize hg : gt l j = g0 at *
              clear hg
              obtain ⟨it, hit, ht0, ht1, ht2⟩ : ∃ it, Try.prog.info? 105 = some it ∧ it.zero = some (.agg #[.int .i64 0, .slice none 0 0]) ∧ it.size = 2 ∧ it.bytes = 32 := by
                have := Try.infot
                cases hq : Try.prog.info? 105 with
                | none => rw [hq] at this; cases this
                | some it => rw [hq] at this; injection this with this; injection this with a1 a2; injection a2 with a2 a3; exact ⟨it, rfl, a1, a2, a3⟩
              go_wp2_with fail
              have hne : Nonempty (SBW w.heap.size wr) := Cls.ne (SB.refl hsr)
              have f0 : ∀ u : SBW w.heap.size wr, u.w.cell? ⟨b, off, none⟩ = some (.int .u8 g0) := fun u => u.cell hx2 hbw0
              have hq := SB.start (w0 := wr) hsr
              have hmm : m ≤ 140737488355328 := by omega
              refine wp_region_segs (fun w2 => ∃ u : SBW w.heap.size wr, w2 = u.w) ((0, 0) :: (1, 0) :: (2, 0) :: (3, 0) :: (4, 0) :: (5, 0) :: (6, 0) :: (7, 0) :: (8, 1) :: (9, 0) :: (10, 1) :: (11, 1) :: (12, 0) :: []) (by kernel_rfl) (by kernel_rfl) (by kernel_rfl) (by kernel_rfl) (inC hq) ?_
              refine seg_held _ rfl ?_; go_big_quiet_step (fail); refine wpQuiet_nil ?_ -- 0 move
              refine seg_held _ rfl ?_; go_big_quiet_step (fail); refine wpQuiet_nil ?_ -- 1 move
              refine seg_held _ rfl ?_; go_big_quiet_step (fail); refine wpQuiet_nil ?_ -- 2 indexAddr
              refine seg_held _ rfl ?_; go_big_quiet_step (fail); refine wpQuiet_nil ?_ -- 3 load
              refine seg_held _ rfl ?_; go_big_quiet_step (fail); refine wpQuiet_nil ?_ -- 4 convert
              refine seg_held _ rfl ?_; go_big_quiet_step (fail); refine wpQuiet_nil ?_ -- 5 move
              refine seg_held _ rfl ?_; go_big_quiet_step (fail); refine wpQuiet_nil ?_ -- 6 move
              refine seg_held _ rfl ?_; go_big_quiet_step (fail); refine wpQuiet_nil ?_ -- 7 slice
              refine seg_loud _ rfl rfl ?_; intro K hK -- 8 call slices.Clone[[]byte,byte]
              go_wp2_with fail
              refine (Clone_calls _ _ _ _ _ hdt.drew hmm).mono ?_
              rintro e w2 ⟨A2, n2, c2, rfl, ho2, hb2⟩
              have hq2 := hq.step hb2
              go_wp2_with fail
              refine ⟨_, fun _ h => h, inC hq2, ?_⟩
              refine seg_held _ rfl ?_; go_big_quiet_step (fail); refine wpQuiet_nil ?_ -- 9 build
              refine seg_loud _ rfl rfl ?_; intro K hK -- 10 buildSlice
              go_wp2_with fail
              refine ⟨_, fun _ h => h, inC (hq2.alloc _), ?_⟩
              refine seg_loud _ rfl rfl ?_; intro K hK -- 11 builtin:append
              have ho3 := ((ho.drew.step hb2)).alloc (.cells #[.int .i64 g0, .slice A2 n2 c2] 105)
              have hq3 := hq2.alloc (.cells #[.int .i64 g0, .slice A2 n2 c2] 105)
              refine wp_app_t (.tmp 41) (.tmp 51) 23 rfl it Try.underlying23 hit ht0 ht1 ht2 (by decide) (g2 := w2.heap.size) (kd := g0) rfl rfl ho3 (by simp) (by simp) (ho2.bs.alloc _) (ho2.alloc _).lies (by omega) hq3.2 (fun A4 n4 c4 w4 ho4 hg4 => hK _ _ ?_)
              have hg5 : Below w.heap.size _ w4 := (Below.refl _ _).grown hg4 hq3.2 (fun k hk => (ho3.block k hk).1)
              clear hg4
              refine ⟨_, fun _ h => h, inC (hq3.low hg5), ?_⟩
              go_frame
              refine seg_held _ rfl ?_; go_big_quiet_step (fail); refine wpQuiet_nil ?_ -- 12 assign
              refine seg_nil ?_
              have hbz := hbw.trans (hq3.low hg5).1
              have hn4 : n4 ≤ j + (2 + m) := by have e4 := ho4.len; have e5 := ho.len; simp at e4; omega
              clear hg5 hq3 hq2 ho2 ho3 hsl hne f0
              go_wp2_with fail
              go_step3
              exact ⟨rfl, ⟨j + (2 + m), _, A4, n4, c4, _, _, _, _, _, _, _, _, _, _, _, _, _, _, _, _, _, _, _, _, _, _, _, _, _, _, _, _, _, _, _, _, _, _, _, _, _, _, _, _, _, _, _, _, _, _, _, _, _, _, _, _, _, _, rfl, hj1, hn4, hbs1, ho4, E, hbz⟩, show nb - (2 + m) < nb by omega⟩
end Go.Proofs.Ytmenonijbcljdaa
