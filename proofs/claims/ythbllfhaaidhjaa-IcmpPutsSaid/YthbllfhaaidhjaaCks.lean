/- The walks of package cksum and of its reference, first part: numbers and sums of bytes. -/
import Derived.Test.YthbllfhaaidhjaaCksp
import Derived.Test.YthbllfhaaidhjaaOctl
namespace Go.Proofs.Ythbllfhaaidhjaa
open Go.RowKit Go.Mix Go.Bas

theorem u16_at2 {l : List UInt8} {i : Nat} (h : 2 * i + 2 ≤ l.length) : u16 l (2 * (i : Int)) = (gt l (2 * i) * 256 + gt l (2 * i + 1), true) := by
  unfold u16; rw [if_pos (by omega), show (2 * (i : Int)).toNat = 2 * i by omega]
theorem u16_at {l : List UInt8} {i : Nat} (h : i + 2 ≤ l.length) : u16 l (i : Int) = (gt l i * 256 + gt l (i + 1), true) := by
  unfold u16; rw [if_pos (by omega)]; rfl

set_option maxRecDepth 8000 in
set_option maxHeartbeats 400000 in
theorem low_calls (n : Int) (w : World) : Calls Try.prog 139 #[.int .i64 n] w fun e w' => e = .returned (.int .i64 (low n)) ∧ w = w' := by
  have h := and_65535 n
  go_enter Try.func139, Try.ntmps139
  go_wp2
  go_ret
  exact ⟨rfl, rfl⟩
set_option maxRecDepth 8000 in
set_option maxHeartbeats 400000 in
theorem mod_calls (n : Int) (w : World) : Calls Try.prog 138 #[.int .i64 n] w fun e w' => e = .returned (.int .i64 (low n)) ∧ w = w' := by
  have h := and_65535 n
  go_enter Try.func138, Try.ntmps138
  go_wp2
  go_ret
  exact ⟨rfl, rfl⟩

set_option maxRecDepth 8000 in
set_option maxHeartbeats 400000 in
theorem jn_calls (a b : Int) (w : World) : Calls Try.prog 140 #[.int .i64 a, .int .i64 b] w fun e w' => e = .returned (.int .i64 (jn a b)) ∧ w = w' := by
  have a0 := low_lo a
  have a1 := low_hi a
  have b0 := low_lo b
  have b1 := low_hi b
  by_cases h : 65535 < low a + low b
  · have e1 : jn a b = low a + low b - 65535 := by unfold jn; rw [if_pos h]
    rw [e1]
    clear e1
    go_enter Try.func140, Try.ntmps140
    go_wp2_with fail
    refine (low_calls _ _).mono ?_; rintro e w' ⟨rfl, rfl⟩
    go_wp2_with fail
    refine (low_calls _ _).mono ?_; rintro e w' ⟨rfl, rfl⟩
    go_wp2
    go_ret
    exact ⟨rfl, rfl⟩
  · have e1 : jn a b = low a + low b := by unfold jn; rw [if_neg h]
    rw [e1]
    clear e1
    go_enter Try.func140, Try.ntmps140
    go_wp2_with fail
    refine (low_calls _ _).mono ?_; rintro e w' ⟨rfl, rfl⟩
    go_wp2_with fail
    refine (low_calls _ _).mono ?_; rintro e w' ⟨rfl, rfl⟩
    go_wp2
    go_ret
    exact ⟨rfl, rfl⟩
set_option maxRecDepth 8000 in
set_option maxHeartbeats 400000 in
theorem rjn_calls (a b : Int) (w : World) : Calls Try.prog 112 #[.int .i64 a, .int .i64 b] w fun e w' => e = .returned (.int .i64 (jn a b)) ∧ w = w' := by
  have a0 := low_lo a
  have a1 := low_hi a
  have b0 := low_lo b
  have b1 := low_hi b
  by_cases h : 65535 < low a + low b
  · have e1 : jn a b = low a + low b - 65535 := by unfold jn; rw [if_pos h]
    rw [e1]
    clear e1
    go_enter Try.func112, Try.ntmps112
    go_wp2_with fail
    refine (mod_calls _ _).mono ?_; rintro e w' ⟨rfl, rfl⟩
    go_wp2_with fail
    refine (mod_calls _ _).mono ?_; rintro e w' ⟨rfl, rfl⟩
    go_wp2
    go_ret
    exact ⟨rfl, rfl⟩
  · have e1 : jn a b = low a + low b := by unfold jn; rw [if_neg h]
    rw [e1]
    clear e1
    go_enter Try.func112, Try.ntmps112
    go_wp2_with fail
    refine (mod_calls _ _).mono ?_; rintro e w' ⟨rfl, rfl⟩
    go_wp2_with fail
    refine (mod_calls _ _).mono ?_; rintro e w' ⟨rfl, rfl⟩
    go_wp2
    go_ret
    exact ⟨rfl, rfl⟩
set_option maxRecDepth 8000 in
set_option maxHeartbeats 400000 in
theorem nt_calls (a : Int) (w : World) : Calls Try.prog 117 #[.int .i64 a] w fun e w' => e = .returned (.int .i64 (nt a)) ∧ w = w' := by
  have a0 := low_lo a
  have a1 := low_hi a
  go_enter Try.func117, Try.ntmps117
  go_wp2_with fail
  refine (low_calls _ _).mono ?_; rintro e w' ⟨rfl, rfl⟩
  go_wp2
  go_ret
  exact ⟨rfl, rfl⟩
set_option maxRecDepth 8000 in
set_option maxHeartbeats 400000 in
theorem rnt_calls (a : Int) (w : World) : Calls Try.prog 119 #[.int .i64 a] w fun e w' => e = .returned (.int .i64 (nt a)) ∧ w = w' := by
  have a0 := low_lo a
  have a1 := low_hi a
  go_enter Try.func119, Try.ntmps119
  go_wp2_with fail
  refine (mod_calls _ _).mono ?_; rintro e w' ⟨rfl, rfl⟩
  go_wp2
  go_ret
  exact ⟨rfl, rfl⟩
set_option maxRecDepth 8000 in
set_option maxHeartbeats 1000000 in
theorem sums_calls (A : Option Addr) (n c : Nat) (L : List (List UInt8)) (w : World) (h : Bss w A n c L) (hsz : ∀ l ∈ L, l.length ≤ 140737488355328) :
    Calls Try.prog 143 #[.slice A n c] w fun e w' => e = .returned (.int .i64 (psum 0 L)) ∧ w = w' := by
  have hc1 := h.cap
  have hc2 := h.most
  have hle : n ≤ L.length := Nat.le_of_eq h.len
  have hge : L.length ≤ n := Nat.le_of_eq h.len.symm
  have HH := hid h
  have HSZ := hid hsz
  clear h hsz
  go_enter Try.func143, Try.ntmps143
  go_wp2_with fail
  go_loop [3, 10] (fun s k => ∃ j : Nat, j ≤ n ∧ k = .int .i64 j ∧ s = .int .i64 (psum 0 (L.take j))) (fun _ k => n - (intOf k).toNat)
  case atStart => exact ⟨0, by omega, rfl, rfl⟩
  case round =>
    obtain ⟨j, hj, rfl, rfl⟩ := hrel
    by_cases hlt : j < n
    · have hjL : j < L.length := by omega
      obtain ⟨b, off, rfl, hbl, hc⟩ := HH.out.rd (by intro e; subst e; simp at hjL)
      obtain ⟨A2, n2, c2, hx, hbs⟩ := hc j hjL
      have hlt' : (j : Int) < n := by omega
      have e1 := hid (psum_take hjL 0)
      have s0 := psum_lo (L.take j) 0 (by omega)
      have s1 := psum_hi (L.take j) 0 (by omega)
      have d1 := hbs.cap
      have d2 := hbs.most
      have d3 : n2 ≤ 140737488355328 := by rw [hbs.len]; exact HSZ.out _ (List.getElem_mem hjL)
      have dle : n2 ≤ L[j].length := Nat.le_of_eq hbs.len
      have dge : L[j].length ≤ n2 := Nat.le_of_eq hbs.len.symm
      have HB := hid hbs
      clear hc hbs
      generalize psum 0 (L.take j) = sj at *
      generalize hLj : L[j] = l at *
      clear hLj
      go_wp2_with fail
      go_loop [3, 6, 7, 18] (fun s _ _ k => ∃ i : Nat, 2 * i ≤ n2 + 1 ∧ k = .int .i64 i ∧ s = .int .i64 (wsum sj (l.take (2 * i)))) (fun _ _ _ k => n2 + 1 - 2 * (intOf k).toNat)
      case atStart => exact ⟨0, by omega, rfl, by simp [wsum]⟩
      case round =>
        obtain ⟨i, hi, rfl, rfl⟩ := hrel
        by_cases hlt2 : 2 * i < n2
        · obtain ⟨b2, off2, rfl, hbl2, hc2'⟩ := HB.out.at_ (by omega)
          have hx1 := hc2' (2 * i) (by omega)
          have t1 : (i : Int) < ((n2 : Int) + 1) / 2 := by omega
          have y0 := gt_lo l (2 * i)
          have y1 := gt_hi l (2 * i)
          by_cases hlt3 : 2 * i + 1 < n2
          · have hx2 := hc2' (2 * i + 1) (by omega)
            have z0 := gt_lo l (2 * i + 1)
            have z1 := gt_hi l (2 * i + 1)
            have hor := or256 (gt l (2 * i)) (gt l (2 * i + 1)) y0 (by omega) z0 z1
            have e2 := hid (wsum_word (s := sj) (l := l) (k := i) (by omega))
            have t2 : 2 * (i : Int) + 1 < n2 := by omega
            clear hc2'
            go_wp2_with fail
            refine (jn_calls _ _ _).mono ?_; rintro e w' ⟨rfl, rfl⟩
            go_wp2
            go_round
            case rel => exact ⟨i + 1, by omega, by go_num, by rw [e2.out]⟩
            case measure => simp [intOf]; omega
          · have e2 := hid (wsum_last (s := sj) (l := l) (k := i) (by omega))
            have t2 : ¬ (2 * (i : Int) + 1 < n2) := by omega
            clear hc2'
            go_wp2_with fail
            refine (jn_calls _ _ _).mono ?_; rintro e w' ⟨rfl, rfl⟩
            go_wp2
            go_round
            case rel => exact ⟨i + 1, by omega, by go_num, by rw [← e2.out, List.take_of_length_le (by omega)]⟩
            case measure => simp [intOf]; omega
        · have t1 : ¬ ((i : Int) < ((n2 : Int) + 1) / 2) := by omega
          have e2 : wsum sj (l.take (2 * i)) = wsum sj l := by rw [List.take_of_length_le (by omega)]
          rw [e2]
          clear e2
          go_wp2
          go_round
          case rel => exact ⟨j + 1, by omega, by go_num, by rw [e1.out]⟩
          case measure => simp [intOf]; omega
    · have hlt' : ¬ ((j : Int) < n) := by omega
      have e1 : L.take j = L := List.take_of_length_le (by omega)
      rw [e1]
      clear e1
      go_wp2
      go_ret
      exact ⟨rfl, rfl⟩

set_option maxRecDepth 8000 in
set_option maxHeartbeats 400000 in
theorem Sum_calls (A : Option Addr) (n c : Nat) (l : List UInt8) (w : World) (h : Bs w A n c l) (hsz : n ≤ 140737488355328) :
    Calls Try.prog 142 #[.slice A n c] w fun e w' => e = .returned (.int .i64 (wsum 0 l)) ∧ Below w.heap.size w w' := by
  go_enter Try.func142, Try.ntmps142
  go_wp2_with fail
  have hss : Bss (w.alloc (.cells #[.slice A n c] 27)) (some ⟨w.heap.size, 0, none⟩) 1 1 [l] :=
    ⟨rfl, Nat.le_refl _, by omega, fun _ => ⟨w.heap.size, 0, rfl, by simp, fun j hj => ⟨A, n, c, by
      have : j = 0 := by simpa using hj
      subst this
      simp, by
      have : j = 0 := by simpa using hj
      subst this
      exact h.alloc _⟩⟩⟩
  refine (sums_calls _ _ _ [l] _ hss (by intro l' hl'; rw [List.mem_singleton.1 hl', ← h.len]; exact hsz)).mono ?_; rintro e w' ⟨rfl, rfl⟩
  go_wp2
  go_ret
  exact ⟨rfl, (Below.refl _ _).alloc (Nat.le_refl _) _⟩

set_option maxRecDepth 8000 in
set_option maxHeartbeats 1000000 in
theorem rSum_calls (A : Option Addr) (n c : Nat) (l : List UInt8) (w : World) (h : Bs w A n c l) (hsz : n ≤ 140737488355327) :
    Calls Try.prog 114 #[.slice A n c] w fun e w' => e = .returned (.int .i64 (wsum 0 l)) ∧ Below w.heap.size w w' := by
  obtain ⟨i0, hi, hz0, hz1, hz2⟩ := info_parts Try.infob
  have hc1 := h.cap
  have hc2 := h.most
  have hle : n ≤ l.length := Nat.le_of_eq h.len
  have hge : l.length ≤ n := Nat.le_of_eq h.len.symm
  have HH := hid h
  clear h
  go_enter Try.func114, Try.ntmps114
  by_cases hodd : (n : Int) % 2 = 1
  · have ho : ((n : Int) % 2 == 1) = true := by simpa using hodd
    go_wp2_with (at_builtin; refine stop ?_)
    have ho := Own.made_at (base := w.heap.size) w 5 [] #[] rfl rfl rfl (by simp) (Nat.le_refl _)
    refine Stop.on (wpList_app rfl _ _ 27 rfl 5 i0 Try.underlying27 hi hz0 hz1 hz2 w.heap.size [] l rfl rfl ho (HH.out.alloc _) (by omega) (by simp) ?_)
    intro A1 n1 c1 w1 ho1 hg1
    have hb1 : Below w.heap.size w w1 := ((Below.refl _ _).alloc (Nat.le_refl _) _).trans (below_grown hg1 ho (Nat.le_refl _) (by simp))
    have hs1 := hb1.size
    have hn1 : n1 ≤ n := by have := ho1.len; simp at *; omega
    clear hg1 ho
    go_wp2_with (at_builtin; refine stop ?_)
    have ho1' := ho1.alloc (.cells #[.int .u8 0] 5)
    refine Stop.on (wpList_app rfl _ _ 27 rfl 5 i0 Try.underlying27 hi hz0 hz1 hz2 w.heap.size _ [0] rfl rfl ho1' (made_bs _ _ _ _ rfl rfl rfl (by simp)) (by omega) (by simp; omega) ?_)
    intro A2 n2 c2 w2 ho2 hg2
    have hb2 : Below w.heap.size w w2 := (hb1.alloc hs1 _).trans (below_grown hg2 ho1' (Nat.le_refl _) (by simp; omega))
    have hbs2 := ho2.bs
    have HBL := hid hb2
    have HBS := hid hbs2
    have el : [] ++ l ++ [0] = l ++ [(0 : UInt8)] := by simp
    rw [el] at HBS
    have hn2 : n2 = n + 1 := by have := ho2.len; simp at *; omega
    have hev : (l ++ [(0 : UInt8)]).length = n + 1 := by simp; omega
    have hn2a : n2 ≤ n + 1 := by omega
    have hn2b : n + 1 ≤ n2 := by omega
    have EP := hid (wsum_pad (l := l) (s := 0) (by omega))
    have HEV := hid hev
    have hpar : n2 % 2 = 0 := by omega
    have HPAR := hid hpar
    generalize l ++ [(0 : UInt8)] = l2 at *
    clear hg2 ho1 ho1' ho2 hb1 hs1 hb2 hbs2 el hn2 hev hpar
    go_wp2_with fail
    go_loopw [3, 4, 5, 6, 22, 23] (fun s k _ _ _ _ wr => ∃ i : Nat, 2 * i ≤ n2 ∧ k = .int .i64 (2 * (i : Int)) ∧ s = .int .i64 (wsum 0 (l2.take (2 * i))) ∧ Below w.heap.size w wr ∧ Bs wr A2 n2 c2 l2) (fun _ k _ _ _ _ _ => n2 - (intOf k).toNat)
    case atStart => exact ⟨0, by omega, rfl, rfl, HBL.out, HBS.out⟩
    case round =>
      obtain ⟨i, hi2, rfl, rfl, hb, hbs⟩ := hrel
      by_cases hlt : 2 * i < n2
      · have t1 : 2 * (i : Int) < n2 := by omega
        have EU := hid (u16_at2 (l := l2) (i := i) (by have := hbs.len; omega))
        have e2 := hid (wsum_word (s := 0) (l := l2) (k := i) (by have := hbs.len; omega))
        go_wp2_with fail
        refine (rU16_calls _ _ _ l2 _ _ hbs).mono ?_; rintro e w1 ⟨rfl, q1⟩
        rw [EU.out]
        have hb1 : Below w.heap.size w w1 := hb.trans (below_quiet q1)
        have hbs1 : Bs w1 A2 n2 c2 l2 := hbs.step (below_quiet q1)
        clear q1 hb hbs
        go_wp2_with fail
        refine (rjn_calls _ _ _).mono ?_; rintro e w2 ⟨rfl, rfl⟩
        go_wp2
        go_roundw
        case rel => exact ⟨i + 1, by omega, by congr 1, by rw [e2.out], hb1, hbs1⟩
        case measure => simp [intOf]; omega
      · have t1 : ¬ (2 * (i : Int) < n2) := by omega
        have e2 : l2.take (2 * i) = l2 := List.take_of_length_le (by have := hbs.len; omega)
        rw [e2]
        clear e2 hbs
        go_wp2
        go_ret
        exact ⟨by rw [EP.out]; rfl, hb⟩
  · have ho : ((n : Int) % 2 == 1) = false := by simpa using hodd
    have HBL := hid (Below.refl w.heap.size w)
    have HBS := hid HH.out
    go_wp2_with fail
    go_loopw [3, 4, 5, 6, 22, 23] (fun s k _ _ _ _ wr => ∃ i : Nat, 2 * i ≤ n ∧ k = .int .i64 (2 * (i : Int)) ∧ s = .int .i64 (wsum 0 (l.take (2 * i))) ∧ Below w.heap.size w wr ∧ Bs wr A n c l) (fun _ k _ _ _ _ _ => n - (intOf k).toNat)
    case atStart => exact ⟨0, by omega, rfl, rfl, HBL.out, HBS.out⟩
    case round =>
      obtain ⟨i, hi2, rfl, rfl, hb, hbs⟩ := hrel
      by_cases hlt : 2 * i < n
      · have t1 : 2 * (i : Int) < n := by omega
        have EU := hid (u16_at2 (l := l) (i := i) (by have := hbs.len; omega))
        have e2 := hid (wsum_word (s := 0) (l := l) (k := i) (by have := hbs.len; omega))
        go_wp2_with fail
        refine (rU16_calls _ _ _ l _ _ hbs).mono ?_; rintro e w1 ⟨rfl, q1⟩
        rw [EU.out]
        have hb1 : Below w.heap.size w w1 := hb.trans (below_quiet q1)
        have hbs1 : Bs w1 A n c l := hbs.step (below_quiet q1)
        clear q1 hb hbs
        go_wp2_with fail
        refine (rjn_calls _ _ _).mono ?_; rintro e w2 ⟨rfl, rfl⟩
        go_wp2
        go_roundw
        case rel => exact ⟨i + 1, by omega, by congr 1, by rw [e2.out], hb1, hbs1⟩
        case measure => simp [intOf]; omega
      · have t1 : ¬ (2 * (i : Int) < n) := by omega
        have e2 : l.take (2 * i) = l := List.take_of_length_le (by have := hbs.len; omega)
        rw [e2]
        clear e2 hbs
        go_wp2
        go_ret
        exact ⟨rfl, hb⟩
end Go.Proofs.Ythbllfhaaidhjaa
