/- The walks of package tlv, fourth part: the bytes of parts, in the program. -/
import Derived.Test.YtmenonijbcljdaaTlvc
namespace Go.Proofs.Ytmenonijbcljdaa
open Go.RowKit Go.Mix Go.Bas

theorem own_ne {w : World} {base : Nat} {T : TypeId} {A : Option Addr} {n c : Nat} {l : List UInt8} {tb : Nat} {kd : Int} (ho : Own w base T A n c l) (hn : 0 < n) (hS : w.cell? ⟨tb, 0, none⟩ = some (.int .i64 kd)) : some tb ≠ (Value.slice A n c).ownBlock := by
  obtain ⟨g, rfl, _, _⟩ := ho.at_ hn
  intro e
  have hc := ho.cell hn
  have : tb = g := by simp [Value.ownBlock] at e; omega
  subst this
  rw [hc] at hS
  cases hS

set_option maxRecDepth 8000 in
set_option maxHeartbeats 2000000 in
theorem Put_calls (A : Option Addr) (n c : Nat) (L : List (Int × List UInt8)) (w : World) (h : Tls w A n c L) :
    Calls Try.prog 31 #[.slice A n c] w fun e w' => ∃ A' n' c', e = .returned (.tuple #[.slice A' n' c', .int .i64 (put L).2]) ∧ Own w' w.heap.size 5 A' n' c' (put L).1 ∧ Below w.heap.size w w' := by
  obtain ⟨i0, hi, hz0, hz1, hz2⟩ := info_parts Try.infob
  have hc1 := h.cap
  have hc2 := h.most
  have hle : n ≤ L.length := Nat.le_of_eq h.len
  have hge : L.length ≤ n := Nat.le_of_eq h.len.symm
  have HH := hid h
  by_cases hz : can 256 L = 0
  · have hput : put L = (enc L ++ pad ((8 - (enc L).length % 8) % 8), 0) := by unfold put; rw [if_pos hz]
    obtain ⟨ln, hln⟩ : ∃ ln : Nat, ln = (enc L).length := ⟨_, rfl⟩
    rw [← hln] at hput
    rw [hput]
    have HLN := hid hln
    have HL := hid (enc_len hz)
    clear hln
    clear hput
    go_enter Try.func31, Try.ntmps31
    go_wp2_with fail
    refine (Can_calls _ _ _ L _ h).mono ?_; rintro e w1 ⟨rfl, hb1⟩
    rw [hz]
    have HB1 := hid hb1
    clear h hz hb1
    go_wp2_with fail
    go_loopw [5, 15] (fun o k wr => ∃ (j : Nat) (A' : Option Addr) (n' c' : Nat), j ≤ n ∧ k = .int .i64 j ∧ o = .slice A' n' c' ∧ Own wr w.heap.size 5 A' n' c' (enc (L.take j)) ∧ Below w.heap.size w wr) (fun _ k _ => n - (intOf k).toNat)
    case atStart => exact ⟨0, _, _, _, by omega, rfl, rfl, by simpa [enc] using Own.nil _ _ _, HB1.out⟩
    case round =>
      obtain ⟨j, A1, n1, c1, hj, rfl, rfl, ho, hbw⟩ := hrel
      have hsr := hbw.size
      have hl1 := HL.out j
      rw [← ho.len] at hl1
      by_cases hlt : j < n
      · have hlt' : (j : Int) < n := by omega
        obtain ⟨b, off, rfl, hb, hx, A2, n2, c2, hy, hbs⟩ := HH.out.rd j (by omega)
        have en := hid (enc_take (L := L) (j := j) (by omega))
        have hl2 := HL.out (j + 1)
        rw [en.out] at hl2
        generalize L[j] = p at *
        obtain ⟨kd, dt⟩ := p
        dsimp only at hx hl2 hbs
        have hn2 := hbs.len
        have hn2' : n2 ≤ 256 := by simp at hl2; omega
        have HN2 := hid hn2
        have HBS := hid hbs
        have HBW := hid hbw
        clear hn2 hl2 hbs hbw
        have hx' := (HBW.out.cell (p := ⟨b, off + j * 2, none⟩) hb).trans hx
        have hy' := (HBW.out.cell (p := ⟨b, off + j * 2 + 1, none⟩) hb).trans hy
        have hcs : (#[.int .u8 (kd % 256), .int .u8 ((n2 : Int) % 256)] : Array Value).toList = [b8 kd, b8 n2].map bv := by simp only [List.map_cons, List.map_nil, bv_b8]
        have HCS := hid hcs
        clear hcs hx hy
        go_wp2_with fail
        have hbt := HBW.out.alloc hsr (.cells #[.int .i64 kd, .slice A2 n2 c2] 105)
        have hot := ho.alloc (.cells #[.int .i64 kd, .slice A2 n2 c2] 105)
        have hd0 : ∀ k, (Value.slice A1 n1 c1).ownBlock = some k → k < wr.heap.size := fun k hk => (ho.block k hk).2
        have hs0 : (wr.alloc (.cells #[.int .i64 kd, .slice A2 n2 c2] 105)).cell? ⟨wr.heap.size, 0, none⟩ = some (.int .i64 kd) ∧ (wr.alloc (.cells #[.int .i64 kd, .slice A2 n2 c2] 105)).cell? ⟨wr.heap.size, 1, none⟩ = some (.slice A2 n2 c2) := ⟨by simp, by simp⟩
        have hsz : (wr.alloc (.cells #[.int .i64 kd, .slice A2 n2 c2] 105)).heap.size = wr.heap.size + 1 := by simp
        generalize wr.alloc (.cells #[.int .i64 kd, .slice A2 n2 c2] 105) = wt at *
        have HS0 := hid hs0
        have hne : Nonempty (Cls (fun w1 => w1.cell? ⟨wr.heap.size, 0, none⟩ = some (.int .i64 kd) ∧ w1.cell? ⟨wr.heap.size, 1, none⟩ = some (.slice A2 n2 c2))) := Cls.ne hs0
        have hk0 : ∀ u : Cls (fun w1 => w1.cell? ⟨wr.heap.size, 0, none⟩ = some (.int .i64 kd) ∧ w1.cell? ⟨wr.heap.size, 1, none⟩ = some (.slice A2 n2 c2)), u.w.cell? ⟨wr.heap.size, 0, none⟩ = some (.int .i64 kd) := fun u => u.is.1
        have hk1 : ∀ u : Cls (fun w1 => w1.cell? ⟨wr.heap.size, 0, none⟩ = some (.int .i64 kd) ∧ w1.cell? ⟨wr.heap.size, 1, none⟩ = some (.slice A2 n2 c2)), u.w.cell? ⟨wr.heap.size, 1, none⟩ = some (.slice A2 n2 c2) := fun u => u.is.2
        clear hs0 hx' hy'
        refine wp_region_segs (fun w1 => ∃ u : Cls (fun w1 => w1.cell? ⟨wr.heap.size, 0, none⟩ = some (.int .i64 kd) ∧ w1.cell? ⟨wr.heap.size, 1, none⟩ = some (.slice A2 n2 c2)), w1 = u.w) ((0, 0) :: (1, 0) :: (2, 0) :: (3, 0) :: (4, 0) :: (5, 0) :: (6, 0) :: (7, 0) :: (10, 0) :: (11, 0) :: (8, 1) :: (9, 1) :: (12, 1) :: (13, 0) :: []) (by kernel_rfl) (by kernel_rfl) (by kernel_rfl) (by kernel_rfl) (inC HS0.out) ?_
        have hm0 : Below wt.heap.size wt ((wt.alloc (.cells #[.int .u8 (kd % 256), .int .u8 ((n2 : Int) % 256)] 5)).drew) := ((Below.refl _ _).alloc (Nat.le_refl _) _).drew
        have hS1 : (fun w1 => w1.cell? ⟨wr.heap.size, 0, none⟩ = some (.int .i64 kd) ∧ w1.cell? ⟨wr.heap.size, 1, none⟩ = some (.slice A2 n2 c2)) ((wt.alloc (.cells #[.int .u8 (kd % 256), .int .u8 ((n2 : Int) % 256)] 5)).drew) :=
          ⟨(hm0.cell (p := ⟨wr.heap.size, 0, none⟩) (by show wr.heap.size < _; omega)).trans HS0.out.1, (hm0.cell (p := ⟨wr.heap.size, 1, none⟩) (by show wr.heap.size < _; omega)).trans HS0.out.2⟩
        have ho1 := (hot.alloc (.cells #[.int .u8 (kd % 256), .int .u8 ((n2 : Int) % 256)] 5)).drew
        have hb1 := hbt.trans (hm0.mono hbt.size)
        have HS1 := hid hS1
        have hmd : Bs (wt.alloc (.cells #[.int .u8 (kd % 256), .int .u8 ((n2 : Int) % 256)] 5)).drew (some ⟨wr.heap.size + 1, 0, none⟩) 2 2 [b8 kd, b8 n2] := by
          rw [← hsz]
          exact (made_bs wt 5 [b8 kd, b8 n2] #[.int .u8 (kd % 256), .int .u8 ((n2 : Int) % 256)] rfl rfl HCS.out (by simp)).drew
        clear hS1 hm0 hot
        refine seg_held _ rfl ?_; go_big_quiet_step (fail); refine wpQuiet_nil ?_ -- 0 move
        refine seg_held _ rfl ?_; go_big_quiet_step (fail); refine wpQuiet_nil ?_ -- 1 fieldAddr
        refine seg_held _ rfl ?_; go_big_quiet_step (fail); refine wpQuiet_nil ?_ -- 2 load
        refine seg_held _ rfl ?_; go_big_quiet_step (fail); refine wpQuiet_nil ?_ -- 3 convert
        refine seg_held _ rfl ?_; go_big_quiet_step (fail); refine wpQuiet_nil ?_ -- 4 fieldAddr
        refine seg_held _ rfl ?_; go_big_quiet_step (fail); refine wpQuiet_nil ?_ -- 5 load
        refine seg_held _ rfl ?_; go_big_quiet_step (fail); refine wpQuiet_nil ?_ -- 6 builtin:len
        refine seg_held _ rfl ?_; go_big_quiet_step (fail); refine wpQuiet_nil ?_ -- 7 convert
        refine seg_held _ rfl ?_; go_big_quiet_step (fail); refine wpQuiet_nil ?_ -- 10 fieldAddr
        refine seg_held _ rfl ?_; go_big_quiet_step (fail); refine wpQuiet_nil ?_ -- 11 load
        refine seg_loud _ rfl rfl ?_; intro K hK -- 8 buildSlice
        go_wp2_with fail
        refine ⟨_, fun _ h => h, inC HS1.out, ?_⟩
        refine seg_loud _ rfl rfl ?_; intro K hK -- 9 builtin:append
        refine wp_app (.tmp 19) (.tmp 27) 22 rfl 5 i0 Try.underlying22 hi hz0 hz1 hz2 w.heap.size _ [b8 kd, b8 n2] rfl rfl ho1 hmd (by omega) hb1.size (fun A3 n3 c3 w3 ho3 hg3 => hK _ _ ?_)
        have hS3 : (fun w1 => w1.cell? ⟨wr.heap.size, 0, none⟩ = some (.int .i64 kd) ∧ w1.cell? ⟨wr.heap.size, 1, none⟩ = some (.slice A2 n2 c2)) w3 := ⟨hg3.cell HS1.out.1 (fun e => Nat.lt_irrefl _ (hd0 _ e.symm)), hg3.cell HS1.out.2 (fun e => Nat.lt_irrefl _ (hd0 _ e.symm))⟩
        have hb3 := hb1.trans (below_grown hg3 ho1 (Nat.le_refl _) hb1.size)
        have hn3 : n3 = n1 + 2 := by have h9 := ho3.len; have := ho.len; simp at h9; omega
        have HS3 := hid hS3
        clear hg3 hS3
        refine ⟨_, fun _ h => h, inC HS3.out, ?_⟩
        go_frame
        refine seg_loud _ rfl rfl ?_; intro K hK -- 12 builtin:append
        refine wp_app (.tmp 28) (.tmp 30) 22 rfl 5 i0 Try.underlying22 hi hz0 hz1 hz2 w.heap.size _ dt rfl rfl ho3 (HBS.out.step hb3) (by omega) hb3.size (fun A4 n4 c4 w4 ho4 hg4 => hK _ _ ?_)
        have hS4 : (fun w1 => w1.cell? ⟨wr.heap.size, 0, none⟩ = some (.int .i64 kd) ∧ w1.cell? ⟨wr.heap.size, 1, none⟩ = some (.slice A2 n2 c2)) w4 := ⟨hg4.cell HS3.out.1 (own_ne ho3 (by omega) HS3.out.1), hg4.cell HS3.out.2 (own_ne ho3 (by omega) HS3.out.1)⟩
        have hb4 := hb3.trans (below_grown hg4 ho3 (Nat.le_refl _) hb3.size)
        clear hg4
        refine ⟨_, fun _ h => h, inC hS4, ?_⟩
        clear hS4
        go_frame
        refine seg_held _ rfl ?_; go_big_quiet_step (fail); refine wpQuiet_nil ?_ -- 13 assign
        refine seg_nil ?_
        rw [HN2.out, ← en.out] at ho4
        clear hk0 hk1 hne hK ho3 hb3 ho ho1 hb1 hd0
        go_wp2
        go_roundw
        case rel => exact ⟨j + 1, A4, n4, c4, by omega, by go_num, rfl, ho4, hb4⟩
        case measure => simp [intOf]; omega
      · have hlt' : ¬ ((j : Int) < n) := by omega
        have e1 : L.take j = L := List.take_of_length_le (by omega)
        rw [e1] at ho
        have HO := hid ho
        have HB := hid hbw
        clear ho hbw e1
        obtain rfl : n1 = ln := by rw [HO.out.len, HLN.out]
        have hnb : n1 % 8 < 8 := Nat.mod_lt _ (by omega)
        go_wp2_with fail
        refine (Pad_calls _ _).mono ?_; rintro e w5 ⟨A5, n5, c5, rfl, ho5, hb5⟩
        have hb6 := below_next HB.out hb5
        have ho6 := HO.out.step hb5
        have hn5 : n5 ≤ 257 := by rw [ho5.len]; exact pad_len _
        have hs6 := hb6.size
        have hme : -((n1 : Int) % 8) % 8 = (8 - (n1 : Int) % 8) % 8 := by omega
        have HME := hid hme
        clear hb5 hme
        go_wp2_with (at_builtin; refine stop ?_)
        refine Stop.on (wpList_app rfl _ _ 22 rfl 5 i0 Try.underlying22 hi hz0 hz1 hz2 w.heap.size _ _ rfl rfl ho6 ho5.bs (by omega) hs6 ?_)
        intro A7 n7 c7 w7 ho7 hg7
        have hb7 := hb6.trans (below_grown hg7 ho6 (Nat.le_refl _) hs6)
        clear hg7 ho6 ho5
        go_wp2
        go_ret2
        exact ⟨_, _, _, rfl, by rw [← HME.out]; exact ho7, hb7⟩
  · have hput : put L = ([], can 256 L) := by unfold put; rw [if_neg hz]
    rw [hput]
    clear hput
    go_enter Try.func31, Try.ntmps31
    go_wp2_with fail
    refine (Can_calls _ _ _ L _ h).mono ?_; rintro e w1 ⟨rfl, hb1⟩
    generalize he : can 256 L = e at *
    have HE := hid he
    clear he
    clear h
    go_wp2
    go_ret2
    exact ⟨_, _, _, by rw [HE.out]; rfl, Own.nil _ _ _, hb1⟩
end Go.Proofs.Ytmenonijbcljdaa
