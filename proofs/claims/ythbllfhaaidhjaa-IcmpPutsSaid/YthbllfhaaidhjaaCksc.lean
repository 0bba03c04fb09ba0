/- The walks of package cksum and of its reference, third part: checks. -/
import Derived.Test.YthbllfhaaidhjaaCksb
namespace Go.Proofs.Ythbllfhaaidhjaa
open Go.RowKit Go.Mix Go.Bas

def chk (src dst : List UInt8) (next : Int) (l : List UInt8) : Int := nt (both src dst next l)

set_option maxRecDepth 8000 in
set_option maxHeartbeats 1000000 in
theorem both_calls (src dst : List UInt8) (next : Int) (A : Option Addr) (n c : Nat) (l : List UInt8) (w : World) (hs : src.length = 16) (hd : dst.length = 16) (h : Bs w A n c l) (hsz : n ≤ 140737488355328) :
    Calls Try.prog 118 #[av src, av dst, .int .i64 next, .slice A n c] w fun e w' => e = .returned (.int .i64 (both src dst next l)) ∧ Below w.heap.size w w' := by
  have eb : both src dst next l = jn (pseudo src dst n next) (wsum 0 l) := by unfold both; rw [h.len]
  rw [eb]
  clear eb
  have f1 := fold16 src hs
  have f2 := fold16 dst hd
  have hb0 : Below w.heap.size w ((w.alloc (.cells (src.map bv).toArray 23)).alloc (.cells (dst.map bv).toArray 23)) := ((Below.refl _ _).alloc (Nat.le_refl _) _).alloc (by simp) _
  have F1 := hid f1
  have F2 := hid f2
  clear f1 f2
  unfold av
  go_enter Try.func118, Try.ntmps118
  go_wp2_with fail
  rw [F1.out, F2.out]
  refine (Pseudo_calls src dst n next _ hs hd).mono ?_; rintro e w1 ⟨rfl, hb1⟩
  have hb1' := hb0.trans (hb1.mono (by simp; omega))
  clear hb1 hb0
  go_wp2_with fail
  refine (Sum_calls _ _ _ l _ (h.step hb1') hsz).mono ?_; rintro e w2 ⟨rfl, hb2⟩
  have hb2' := below_next hb1' hb2
  clear hb1' hb2
  go_wp2_with fail
  refine (jn_calls _ _ _).mono ?_; rintro e w3 ⟨rfl, rfl⟩
  go_wp2
  go_ret
  exact ⟨rfl, hb2'⟩

set_option maxRecDepth 8000 in
set_option maxHeartbeats 1000000 in
theorem Check_calls (src dst : List UInt8) (next : Int) (A : Option Addr) (n c : Nat) (l : List UInt8) (w : World) (hs : src.length = 16) (hd : dst.length = 16) (h : Bs w A n c l) (hsz : n ≤ 140737488355328) :
    Calls Try.prog 73 #[av src, av dst, .int .i64 next, .slice A n c] w fun e w' => e = .returned (.int .i64 (chk src dst next l)) ∧ Below w.heap.size w w' := by
  have F1 := hid (fold16 src hs)
  have F2 := hid (fold16 dst hd)
  have hb0 : Below w.heap.size w ((w.alloc (.cells (src.map bv).toArray 23)).alloc (.cells (dst.map bv).toArray 23)) := ((Below.refl _ _).alloc (Nat.le_refl _) _).alloc (by simp) _
  unfold av
  go_enter Try.func73, Try.ntmps73
  go_wp2_with fail
  rw [F1.out, F2.out]
  refine (both_calls src dst next _ _ _ l _ hs hd (h.step hb0) hsz).mono ?_; rintro e w1 ⟨rfl, hb1⟩
  have hb1' := hb0.trans (hb1.mono (by simp; omega))
  clear hb1 hb0
  go_wp2_with fail
  refine (nt_calls _ _).mono ?_; rintro e w3 ⟨rfl, rfl⟩
  go_wp2
  go_ret
  exact ⟨rfl, hb1'⟩

set_option maxRecDepth 8000 in
set_option maxHeartbeats 1000000 in
theorem Fine_calls (src dst : List UInt8) (next : Int) (A : Option Addr) (n c : Nat) (l : List UInt8) (w : World) (hs : src.length = 16) (hd : dst.length = 16) (h : Bs w A n c l) (hsz : n ≤ 140737488355328) :
    Calls Try.prog 87 #[av src, av dst, .int .i64 next, .slice A n c] w fun e w' => e = .returned (.bool (both src dst next l == 65535)) ∧ Below w.heap.size w w' := by
  have F1 := hid (fold16 src hs)
  have F2 := hid (fold16 dst hd)
  have hb0 : Below w.heap.size w ((w.alloc (.cells (src.map bv).toArray 23)).alloc (.cells (dst.map bv).toArray 23)) := ((Below.refl _ _).alloc (Nat.le_refl _) _).alloc (by simp) _
  unfold av
  go_enter Try.func87, Try.ntmps87
  go_wp2_with fail
  rw [F1.out, F2.out]
  refine (both_calls src dst next _ _ _ l _ hs hd (h.step hb0) hsz).mono ?_; rintro e w1 ⟨rfl, hb1⟩
  have hb1' := hb0.trans (hb1.mono (by simp; omega))
  clear hb1 hb0
  go_wp2
  go_ret
  exact ⟨rfl, hb1'⟩

set_option maxRecDepth 8000 in
set_option maxHeartbeats 2000000 in
theorem rPseudo_calls (src dst : List UInt8) (len next : Int) (w : World) (hs : src.length = 16) (hd : dst.length = 16) :
    Calls Try.prog 113 #[av src, av dst, .int .i64 len, .int .i64 next] w fun e w' => e = .returned (.int .i64 (pseudo src dst len next)) ∧ Below w.heap.size w w' := by
  obtain ⟨i0, hi, hz0, hz1, hz2⟩ := info_parts Try.infob
  have bs := (box_bs w src 23 rfl (n := 16) (by omega) (by omega)).alloc (.cells (dst.map bv).toArray 23)
  have bd := box_bs (w.alloc (.cells (src.map bv).toArray 23)) dst 23 (g := w.heap.size + 1) (by simp) (n := 16) (by omega) (by omega)
  have hb0 : Below w.heap.size w ((w.alloc (.cells (src.map bv).toArray 23)).alloc (.cells (dst.map bv).toArray 23)) := ((Below.refl _ _).alloc (Nat.le_refl _) _).alloc (by simp) _
  have HSS := hid hs
  have HDD := hid hd
  have hl0 : 0 ≤ len % 4294967296 := by omega
  have hl1 := hid (show len % 4294967296 < 4294967296 by omega)
  clear hs hd
  unfold av
  go_enter Try.func113, Try.ntmps113
  go_wp2_with fail
  generalize hw0 : ((w.alloc (.cells (src.map bv).toArray 23)).alloc (.cells (dst.map bv).toArray 23)) = w0 at *
  have hz : w0.heap.size = w.heap.size + 2 := by subst hw0; simp
  have HZ := hid hz
  clear hw0 hz
  have hs0 := hb0.size
  have HB0 := hid hb0
  have BS := hid bs
  have BD := hid bd
  clear hb0 bs bd
  go_loopw [9, 10] (fun o k wr => ∃ (j : Nat) (A' : Option Addr) (n' c' : Nat), j ≤ 16 ∧ k = .int .i64 j ∧ o = .slice A' n' c' ∧ Own wr w0.heap.size 5 A' n' c' (src.take j) ∧ Below w0.heap.size w0 wr) (fun _ k _ => 16 - (intOf k).toNat)
  case atStart => exact ⟨0, none, 0, 0, by omega, rfl, rfl, Own.nil _ _ _, Below.refl _ _⟩
  case round =>
    obtain ⟨j, A1, n1, c1, hj, rfl, rfl, ho, hb⟩ := hrel
    have hsr := hb.size
    by_cases hlt : j < 16
    · have t1 : (j : Int) < 16 := by omega
      obtain ⟨b', off', e', hb', hc'⟩ := (BS.out.step hb).at_ (by have := HSS.out; omega)
      injection e' with e'; injection e' with e1 e2; subst e1; subst e2
      have hx := hc' j (by have := HSS.out; omega)
      rw [Nat.zero_add] at hx
      have en : src.take j ++ [b8 (gt src j)] = src.take (j + 1) := by
        rw [List.take_succ_eq_append_getElem (by have := HSS.out; omega), gt_of_lt (by have := HSS.out; omega)]
        congr 2
        exact UInt8.toNat_inj.1 (by have := b8_toNat (src[j]'(by have := HSS.out; omega)).toNat; have := (src[j]'(by have := HSS.out; omega)).toNat_lt; omega)
      have EN := hid en
      have hn1 : n1 ≤ 16 := by have := ho.len; simp at this; omega
      have y0 := gt_lo src j
      have y1 := gt_hi src j
      have hcs : (#[Value.int .u8 (gt src j)] : Array Value).toList = [b8 (gt src j)].map bv := by
        simp only [List.map_cons, List.map_nil, bv_b8]
        rw [show gt src j % 256 = gt src j by omega]
      have HCS := hid hcs
      clear hc' en hcs
      go_wp2_with (at_builtin; refine stop ?_)
      refine Stop.on (wpList_app rfl _ _ 27 rfl 5 i0 Try.underlying27 hi hz0 hz1 hz2 w0.heap.size _ [b8 (gt src j)] rfl rfl (ho.alloc _) (made_bs _ _ _ _ rfl rfl HCS.out (by simp)) (by omega) (by simp; omega) ?_)
      intro A3 n3 c3 w3 ho3 hg3
      have hb3 := (hb.alloc hsr _).trans (below_grown hg3 (ho.alloc _) (Nat.le_refl _) (by simp; omega))
      rw [EN.out] at ho3
      clear hg3 ho EN HCS
      go_wp2
      go_roundw
      case rel => exact ⟨j + 1, A3, n3, c3, by omega, by go_num, rfl, ho3, hb3⟩
      case measure => simp [intOf]; omega
    · have t1 : ¬ ((j : Int) < 16) := by omega
      have e1 : src.take j = src := List.take_of_length_le (by have := HSS.out; omega)
      rw [e1] at ho
      have HO1 := hid ho
      have HB1 := hid hb
      obtain ⟨wb, rfl⟩ : ∃ wb : World, wb = wr := ⟨_, rfl⟩
      clear e1 ho hb hlt
      go_wp2_with fail
      go_loopw [9, 11] (fun o k wr => ∃ (j : Nat) (A' : Option Addr) (n' c' : Nat), j ≤ 16 ∧ k = .int .i64 j ∧ o = .slice A' n' c' ∧ Own wr w0.heap.size 5 A' n' c' (src ++ dst.take j) ∧ Below w0.heap.size w0 wr) (fun _ k _ => 16 - (intOf k).toNat)
      case atStart => exact ⟨0, _, _, _, by omega, rfl, rfl, by simpa using HO1.out, HB1.out⟩
      case round =>
        obtain ⟨j, A1, n1, c1, hj, rfl, rfl, ho, hb⟩ := hrel
        have hsr := hb.size
        by_cases hlt : j < 16
        · have t1 : (j : Int) < 16 := by omega
          obtain ⟨b', off', e', hb', hc'⟩ := (BD.out.step hb).at_ (by have := HDD.out; omega)
          injection e' with e'; injection e' with e1 e2; subst e1; subst e2
          have hx := hc' j (by have := HDD.out; omega)
          rw [Nat.zero_add] at hx
          have en : src ++ dst.take j ++ [b8 (gt dst j)] = src ++ dst.take (j + 1) := by
            rw [List.append_assoc, List.take_succ_eq_append_getElem (by have := HDD.out; omega), gt_of_lt (by have := HDD.out; omega)]
            congr 3
            exact UInt8.toNat_inj.1 (by have := b8_toNat (dst[j]'(by have := HDD.out; omega)).toNat; have := (dst[j]'(by have := HDD.out; omega)).toNat_lt; omega)
          have EN := hid en
          have hn1 : n1 ≤ 32 := by have := ho.len; have := HSS.out; simp at *; omega
          have y0 := gt_lo dst j
          have y1 := gt_hi dst j
          have hcs : (#[Value.int .u8 (gt dst j)] : Array Value).toList = [b8 (gt dst j)].map bv := by
            simp only [List.map_cons, List.map_nil, bv_b8]
            rw [show gt dst j % 256 = gt dst j by omega]
          have HCS := hid hcs
          clear hc' en hcs
          go_wp2_with (at_builtin; refine stop ?_)
          refine Stop.on (wpList_app rfl _ _ 27 rfl 5 i0 Try.underlying27 hi hz0 hz1 hz2 w0.heap.size _ [b8 (gt dst j)] rfl rfl (ho.alloc _) (made_bs _ _ _ _ rfl rfl HCS.out (by simp)) (by omega) (by simp; omega) ?_)
          intro A3 n3 c3 w3 ho3 hg3
          have hb3 := (hb.alloc hsr _).trans (below_grown hg3 (ho.alloc _) (Nat.le_refl _) (by simp; omega))
          rw [EN.out] at ho3
          clear hg3 ho EN HCS
          go_wp2
          go_roundw
          case rel => exact ⟨j + 1, A3, n3, c3, by omega, by go_num, rfl, ho3, hb3⟩
          case measure => simp [intOf]; omega
        · have t1 : ¬ ((j : Int) < 16) := by omega
          have e1 : dst.take j = dst := List.take_of_length_le (by have := HDD.out; omega)
          rw [e1] at ho
          clear e1
          have hn1 : n1 ≤ 32 := by have := ho.len; have := HSS.out; have := HDD.out; simp at *; omega
          go_wp2_with fail
          refine (Four_calls _ _ hl0 hl1.out).mono ?_; rintro e w4 ⟨A4, n4, c4, rfl, ho4, hb4⟩
          have hn4 : n4 ≤ 4 := by have := ho4.len; simp [four] at this; omega
          have ho' := ho.step hb4
          have hb5 := below_next hb hb4
          have hs5 := hb5.size
          clear hb4 hb ho hsr
          go_wp2_with (at_builtin; refine stop ?_)
          refine Stop.on (wpList_app rfl _ _ 27 rfl 5 i0 Try.underlying27 hi hz0 hz1 hz2 w0.heap.size _ _ rfl rfl ho' ho4.bs (by omega) hs5 ?_)
          intro A6 n6 c6 w6 ho6 hg6
          have hb6 := hb5.trans (below_grown hg6 ho' (Nat.le_refl _) hs5)
          have hs6 := hb6.size
          have hn6 : n6 ≤ 36 := by have := ho6.len; have := HSS.out; have := HDD.out; simp [four] at *; omega
          have hcs : (#[.int .u8 0, .int .u8 0, .int .u8 0, .int .u8 (next % 256)] : Array Value).toList = [0, 0, 0, b8 next].map bv := by simp only [List.map_cons, List.map_nil, bv_b8]; rfl
          have HCS := hid hcs
          clear hg6 ho' ho4 hb5 hs5 hcs
          go_wp2_with (at_builtin; refine stop ?_)
          refine Stop.on (wpList_app rfl _ _ 27 rfl 5 i0 Try.underlying27 hi hz0 hz1 hz2 w0.heap.size _ [0, 0, 0, b8 next] rfl rfl (ho6.alloc _) (made_bs _ _ _ _ rfl rfl HCS.out (by simp)) (by omega) (by simp; omega) ?_)
          intro A7 n7 c7 w7 ho7 hg7
          have hb7 := (hb6.alloc hs6 _).trans (below_grown hg7 (ho6.alloc _) (Nat.le_refl _) (by simp; omega))
          have hn7 : n7 ≤ 40 := by have := ho7.len; have := HSS.out; have := HDD.out; simp [four] at *; omega
          clear hg7 ho6 HCS hb6
          go_wp2_with fail
          refine (rSum_calls _ _ _ _ _ ho7.bs (by omega)).mono ?_; rintro e w8 ⟨rfl, hb8⟩
          rw [show wsum 0 (src ++ dst ++ four (len % 4294967296) ++ [0, 0, 0, b8 next]) = pseudo src dst len next from rfl]
          have hb9 := below_next (HB0.out.trans (hb7.mono hs0)) hb8
          clear hb8 hb7 ho7
          go_wp2
          go_ret
          exact ⟨rfl, hb9⟩

set_option maxRecDepth 8000 in
set_option maxHeartbeats 1000000 in
theorem rCheck_calls (src dst : List UInt8) (next : Int) (A : Option Addr) (n c : Nat) (l : List UInt8) (w : World) (hs : src.length = 16) (hd : dst.length = 16) (h : Bs w A n c l) (hsz : n ≤ 140737488355327) :
    Calls Try.prog 76 #[av src, av dst, .int .i64 next, .slice A n c] w fun e w' => e = .returned (.int .i64 (chk src dst next l)) ∧ Below w.heap.size w w' := by
  have eb : chk src dst next l = nt (jn (pseudo src dst n next) (wsum 0 l)) := by unfold chk both; rw [h.len]
  rw [eb]
  clear eb
  have F1 := hid (fold16 src hs)
  have F2 := hid (fold16 dst hd)
  have hb0 : Below w.heap.size w ((w.alloc (.cells (src.map bv).toArray 23)).alloc (.cells (dst.map bv).toArray 23)) := ((Below.refl _ _).alloc (Nat.le_refl _) _).alloc (by simp) _
  unfold av
  go_enter Try.func76, Try.ntmps76
  go_wp2_with fail
  rw [F1.out, F2.out]
  refine (rPseudo_calls src dst n next _ hs hd).mono ?_; rintro e w1 ⟨rfl, hb1⟩
  have hb1' := hb0.trans (hb1.mono (by simp; omega))
  clear hb1 hb0
  go_wp2_with fail
  refine (rSum_calls _ _ _ l _ (h.step hb1') hsz).mono ?_; rintro e w2 ⟨rfl, hb2⟩
  have hb2' := below_next hb1' hb2
  clear hb1' hb2
  go_wp2_with fail
  refine (rjn_calls _ _ _).mono ?_; rintro e w3 ⟨rfl, rfl⟩
  go_wp2_with fail
  refine (rnt_calls _ _).mono ?_; rintro e w3 ⟨rfl, rfl⟩
  go_wp2
  go_ret
  exact ⟨rfl, hb2'⟩

set_option maxRecDepth 8000 in
set_option maxHeartbeats 1000000 in
theorem rFine_calls (src dst : List UInt8) (next : Int) (A : Option Addr) (n c : Nat) (l : List UInt8) (w : World) (hs : src.length = 16) (hd : dst.length = 16) (h : Bs w A n c l) (hsz : n ≤ 140737488355327) :
    Calls Try.prog 68 #[av src, av dst, .int .i64 next, .slice A n c] w fun e w' => e = .returned (.bool (both src dst next l == 65535)) ∧ Below w.heap.size w w' := by
  have eb : both src dst next l = jn (pseudo src dst n next) (wsum 0 l) := by unfold both; rw [h.len]
  rw [eb]
  clear eb
  have F1 := hid (fold16 src hs)
  have F2 := hid (fold16 dst hd)
  have hb0 : Below w.heap.size w ((w.alloc (.cells (src.map bv).toArray 23)).alloc (.cells (dst.map bv).toArray 23)) := ((Below.refl _ _).alloc (Nat.le_refl _) _).alloc (by simp) _
  unfold av
  go_enter Try.func68, Try.ntmps68
  go_wp2_with fail
  rw [F1.out, F2.out]
  refine (rPseudo_calls src dst n next _ hs hd).mono ?_; rintro e w1 ⟨rfl, hb1⟩
  have hb1' := hb0.trans (hb1.mono (by simp; omega))
  clear hb1 hb0
  go_wp2_with fail
  refine (rSum_calls _ _ _ l _ (h.step hb1') hsz).mono ?_; rintro e w2 ⟨rfl, hb2⟩
  have hb2' := below_next hb1' hb2
  clear hb1' hb2
  go_wp2_with fail
  refine (rjn_calls _ _ _).mono ?_; rintro e w3 ⟨rfl, rfl⟩
  go_wp2
  go_ret
  exact ⟨rfl, hb2'⟩
end Go.Proofs.Ythbllfhaaidhjaa
