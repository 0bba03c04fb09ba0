/- The walks of package cksum and of its reference, second part: with addresses. -/
import Derived.Test.YthbllfhaaidhjaaCks
namespace Go.Proofs.Ythbllfhaaidhjaa
open Go.RowKit Go.Mix Go.Bas

def pseudo (src dst : List UInt8) (len next : Int) : Int := wsum 0 (src ++ dst ++ four (len % 4294967296) ++ [0, 0, 0, b8 next])
def both (src dst : List UInt8) (next : Int) (l : List UInt8) : Int := jn (pseudo src dst l.length next) (wsum 0 l)

theorem pseudo_sum (src dst : List UInt8) (len next : Int) (hs : src.length = 16) (hd : dst.length = 16) : psum 0 [src, dst, four (len % 4294967296), [0, 0, 0, b8 next]] = pseudo src dst len next := by
  unfold pseudo psum
  rw [wsum_append _ _ _ (by simp [hs, hd, four]), wsum_append _ _ _ (by simp [hs, hd]), wsum_append _ _ _ (by simp [hs])]
  rfl
theorem fold16 (l : List UInt8) (h : l.length = 16) : (#[bv l[0], bv l[1], bv l[2], bv l[3], bv l[4], bv l[5], bv l[6], bv l[7], bv l[8], bv l[9], bv l[10], bv l[11], bv l[12], bv l[13], bv l[14], bv l[15]] : Array Value) = (l.map bv).toArray := by
  match l, h with
  | [a0, a1, a2, a3, a4, a5, a6, a7, a8, a9, a10, a11, a12, a13, a14, a15], _ => rfl
theorem bss4 {w : World} {T : TypeId} {A0 A1 A2 A3 : Option Addr} {n0 c0 n1 c1 n2 c2 n3 c3 : Nat} {l0 l1 l2 l3 : List UInt8} (b0 : Bs w A0 n0 c0 l0) (b1 : Bs w A1 n1 c1 l1) (b2 : Bs w A2 n2 c2 l2) (b3 : Bs w A3 n3 c3 l3) :
    Bss (w.alloc (.cells #[.slice A0 n0 c0, .slice A1 n1 c1, .slice A2 n2 c2, .slice A3 n3 c3] T)) (some ⟨w.heap.size, 0, none⟩) 4 4 [l0, l1, l2, l3] :=
  ⟨rfl, Nat.le_refl _, by omega, fun _ => ⟨w.heap.size, 0, rfl, by simp, fun j hj => by
    rcases (by simp at hj; omega : j = 0 ∨ j = 1 ∨ j = 2 ∨ j = 3) with rfl | rfl | rfl | rfl
    · exact ⟨A0, n0, c0, by simp, b0.alloc _⟩
    · exact ⟨A1, n1, c1, by simp, b1.alloc _⟩
    · exact ⟨A2, n2, c2, by simp, b2.alloc _⟩
    · exact ⟨A3, n3, c3, by simp, b3.alloc _⟩⟩⟩
theorem box_bs (w : World) (a : List UInt8) (T : TypeId) {g n : Nat} (hg : g = w.heap.size) (hn : n = a.length) (ha : a.length ≤ 9223372036854775807) : Bs (w.alloc (.cells (a.map bv).toArray T)) (some ⟨g, 0, none⟩) n n a :=
  made_bs w T a _ hg hn rfl ha

set_option maxRecDepth 8000 in
set_option maxHeartbeats 1000000 in
theorem Pseudo_calls (src dst : List UInt8) (len next : Int) (w : World) (hs : src.length = 16) (hd : dst.length = 16) :
    Calls Try.prog 141 #[av src, av dst, .int .i64 len, .int .i64 next] w fun e w' => e = .returned (.int .i64 (pseudo src dst len next)) ∧ Below w.heap.size w w' := by
  unfold av
  have bs := (box_bs w src 23 rfl (n := 16) (by omega) (by omega)).alloc (.cells (dst.map bv).toArray 23)
  have bd := box_bs (w.alloc (.cells (src.map bv).toArray 23)) dst 23 (g := w.heap.size + 1) (by simp) (n := 16) (by omega) (by omega)
  have hb0 : Below w.heap.size w ((w.alloc (.cells (src.map bv).toArray 23)).alloc (.cells (dst.map bv).toArray 23)) := ((Below.refl _ _).alloc (Nat.le_refl _) _).alloc (by simp) _
  have HS := hid hs
  have HD := hid hd
  have EP := hid (pseudo_sum src dst len next hs hd)
  clear hs hd
  go_enter Try.func141, Try.ntmps141
  go_wp2_with fail
  have hl0 : 0 ≤ len % 4294967296 := by omega
  have hl1 := hid (show len % 4294967296 < 4294967296 by omega)
  generalize ((w.alloc (.cells (src.map bv).toArray 23)).alloc (.cells (dst.map bv).toArray 23)) = w0 at *
  have hcs : (#[.int .u8 0, .int .u8 0, .int .u8 0, .int .u8 (next % 256)] : Array Value).toList = [0, 0, 0, b8 next].map bv := by simp only [List.map_cons, List.map_nil, bv_b8]; rfl
  have HCS := hid hcs
  clear hcs
  have hne : Nonempty (SBW w0.heap.size w0) := Cls.ne (SB.refl (Nat.le_refl _))
  refine wp_region_segs (fun w1 => ∃ u : SBW w0.heap.size w0, w1 = u.w) ((0, 0) :: (1, 0) :: (2, 0) :: (3, 0) :: (5, 0) :: (6, 0) :: (4, 2) :: (7, 2) :: (8, 1) :: (9, 1) :: (10, 0) :: []) (by kernel_rfl) (by kernel_rfl) (by kernel_rfl) (by kernel_rfl) (inC (SB.start (Nat.le_refl _))) ?_
  refine seg_held _ rfl ?_; go_big_quiet_step (fail); refine wpQuiet_nil ?_ -- 0 slice
  refine seg_held _ rfl ?_; go_big_quiet_step (fail); refine wpQuiet_nil ?_ -- 1 slice
  refine seg_held _ rfl ?_; go_big_quiet_step (fail); refine wpQuiet_nil ?_ -- 2 move
  refine seg_held _ rfl ?_; go_big_quiet_step (fail); refine wpQuiet_nil ?_ -- 3 convert
  refine seg_held _ rfl ?_; go_big_quiet_step (fail); refine wpQuiet_nil ?_ -- 5 move
  refine seg_held _ rfl ?_; go_big_quiet_step (fail); refine wpQuiet_nil ?_ -- 6 convert
  refine seg_fork _ _ (fun a w2 => ∃ (A : Option Addr) (n c g : Nat), a = { tmps := #[Value.agg (List.map bv src).toArray, Value.agg (List.map bv dst).toArray, Value.int IntKind.i64 len, Value.int IntKind.i64 next, Value.pointer (some ⟨w.heap.size, 0, none⟩), Value.pointer (some ⟨w.heap.size + 1, 0, none⟩), undef, undef, Value.int IntKind.i64 0, Value.slice (some ⟨w.heap.size, 0, none⟩) 16 16, Value.slice (some ⟨w.heap.size + 1, 0, none⟩) 16 16, Value.int IntKind.i64 len, Value.int IntKind.u32 (len % 4294967296), Value.slice A n c, Value.int IntKind.i64 next, Value.int IntKind.u8 (next % 256), Value.slice (some ⟨g, 0, none⟩) 4 4, undef, undef], defers := [] } ∧ Bs w2 A n c (four (len % 4294967296)) ∧ Bs w2 (some ⟨g, 0, none⟩) 4 4 [0, 0, 0, b8 next] ∧ SB w0.heap.size w0 w2) rfl rfl rfl rfl ?_ ?_ ?_
  · intro K hK
    go_wp2_with fail
    refine (Put32_calls w0.heap.size _ _ _ [] _ w0.drew (Own.nil _ _ _) (Nat.le_refl _) (by omega) hl0 hl1.out).mono ?_; rintro e w1 ⟨A1, n1, c1, rfl, ho1, hg1⟩
    have hq1 : SB w0.heap.size w0 w1 := SB.low (SB.start (Nat.le_refl _)) ((Below.refl _ _).grown hg1 (Nat.le_refl _) (by simp [Value.ownBlock]))
    clear hg1
    go_wp2_with fail
    refine ⟨inC hq1, fun K' hK' => ?_⟩
    go_wp2_with fail
    exact ⟨A1, n1, c1, w1.heap.size, rfl, (ho1.bs.alloc _), made_bs w1 5 [0, 0, 0, b8 next] #[.int .u8 0, .int .u8 0, .int .u8 0, .int .u8 (next % 256)] rfl rfl HCS.out (by simp), hq1.alloc _⟩
  · intro K hK
    go_wp2_with fail
    refine ⟨inC ((SB.refl (Nat.le_refl _)).alloc _).drew, fun K' hK' => ?_⟩
    go_wp2_with fail
    refine (Put32_calls w0.heap.size _ _ _ [] _ _ (Own.nil _ _ _) (by simp) (by omega) hl0 hl1.out).mono ?_; rintro e w1 ⟨A1, n1, c1, rfl, ho1, hg1⟩
    have hbb : Below (w0.alloc (.cells #[.int .u8 0, .int .u8 0, .int .u8 0, .int .u8 (next % 256)] 5)).drew.heap.size (w0.alloc (.cells #[.int .u8 0, .int .u8 0, .int .u8 0, .int .u8 (next % 256)] 5)).drew w1 := (Below.refl _ _).grown hg1 (Nat.le_refl _) (by simp [Value.ownBlock])
    have hq1 : SB w0.heap.size w0 w1 := ((SB.refl (Nat.le_refl _)).alloc _).drew.step hbb
    have hm := (made_bs w0 5 [0, 0, 0, b8 next] #[.int .u8 0, .int .u8 0, .int .u8 0, .int .u8 (next % 256)] rfl rfl HCS.out (by simp)).drew.step hbb
    clear hg1 hbb
    go_wp2_with fail
    first | exact hK' _ _ ⟨A1, n1, c1, w0.heap.size, rfl, ho1.bs, hm, hq1⟩ | exact hK' _ _ A1 n1 c1 _ rfl ho1.bs hm hq1 | exact hK' _ _ A1 n1 c1 _ ⟨rfl, ho1.bs, hm, hq1⟩
  rintro _ w2 ⟨A, n, c, g, rfl, b2, b3, hq2⟩
  refine ⟨_, fun _ h => h, inC hq2, ?_⟩
  refine seg_loud _ rfl rfl ?_; intro K hK -- 8 buildSlice
  go_wp2_with fail
  refine ⟨_, fun _ h => h, inC (hq2.alloc _), ?_⟩
  refine seg_loud _ rfl rfl ?_; intro K hK -- 9 call harrier/cksum.sum
  go_wp2_with fail
  refine (sums_calls _ _ _ [src, dst, four (len % 4294967296), [0, 0, 0, b8 next]] _ (bss4 (bs.step hq2.1) (bd.step hq2.1) b2 b3) (by simp [HS.out, HD.out, four])).mono ?_
  rintro e w3 ⟨rfl, rfl⟩
  rw [EP.out]
  go_wp2_with fail
  refine ⟨_, fun _ h => h, inC (hq2.alloc _), ?_⟩
  refine seg_held _ rfl ?_; go_big_quiet_step (fail); refine wpQuiet_nil ?_ -- 10 assign
  refine seg_nil ?_
  have hbz := (below_next hb0 hq2.1).alloc (below_next hb0 hq2.1).size (.cells #[.slice (some ⟨w.heap.size, 0, none⟩) 16 16, .slice (some ⟨w.heap.size + 1, 0, none⟩) 16 16, .slice A n c, .slice (some ⟨g, 0, none⟩) 4 4] 27)
  go_wp2
  go_ret
  exact ⟨rfl, hbz⟩

end Go.Proofs.Ythbllfhaaidhjaa
