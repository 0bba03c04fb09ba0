/- Part Gfs of the proof: laws used by the law of this claim. -/
import Derived.Sort.Grow
import Derived.Shelf.SlSortCmp.NoneTotal
import Derived.Test.YtpoeinajedbfoaaDoorProg
import Derived.Sort.OwnSorted
import Derived.Test.YtpoeinajedbfoaaDoorGfo
import Derived.Test.YtpoeinajedbfoaaDoorGfl
set_option linter.all false
namespace Go.Sort
end Go.Sort
namespace Go.Proofs.YtpoeinajedbfoaaDoor
open Go Go.RowKit Go.Mix Go.Bas Go.Sort
set_option maxRecDepth 100000
theorem lessL_at : ∀ (i : Nat) (a b : List UInt8) (h1 : i < a.length) (h2 : i < b.length), a.take i = b.take i → a[i] ≠ b[i] → lessL a b = decide ((a[i].toNat : Int) < b[i].toNat)
  | _, [], _, h1, _, _, _ => by simp at h1
  | _, _ :: _, [], _, h2, _, _ => by simp at h2
  | 0, x :: a, y :: b, _, _, _, hn => lessL_ne hn
  | i + 1, x :: a, y :: b, h1, h2, ht, hn => by
    rw [List.take_succ_cons, List.take_succ_cons] at ht
    injection ht with e1 e2
    subst e1
    rw [lessL_eq]
    exact lessL_at i a b (by simpa using h1) (by simpa using h2) e2 hn
/-- only draws, and new blocks -/
def Grew (w w' : World) : Prop := ∃ q os, w' = grow (w.drewN q) os
theorem Grew.refl (w : World) : Grew w w := ⟨0, #[], by simp [World.drewN_zero]⟩
theorem grow_drewN (w : World) (q : Nat) (os : Array Obj) : (grow w os).drewN q = grow (w.drewN q) os := rfl
theorem drewN_drewN (w : World) (p q : Nat) : (w.drewN p).drewN q = w.drewN (p + q) := by
  unfold World.drewN
  simp [Nat.add_assoc]
theorem Grew.trans {a b c : World} (h : Grew a b) (k : Grew b c) : Grew a c := by
  obtain ⟨q, os, rfl⟩ := h
  obtain ⟨q', os', rfl⟩ := k
  exact ⟨q + q', os ++ os', by rw [grow_drewN, grow_grow, drewN_drewN]⟩
theorem Grew.alloc {a b : World} (h : Grew a b) (o : Obj) : Grew a (b.alloc o) := h.trans ⟨0, #[o], by rw [alloc_eq_grow, World.drewN_zero]⟩
theorem Grew.drewN {a b : World} (h : Grew a b) (q : Nat) : Grew a (b.drewN q) := h.trans ⟨q, #[], by rw [grow_empty]⟩
theorem Grew.drew {a b : World} (h : Grew a b) : Grew a b.drew := h.drewN 1
theorem Grew.below {a b : World} (h : Grew a b) : Below a.heap.size a b := by
  obtain ⟨q, os, rfl⟩ := h
  exact ⟨rfl, rfl, rfl, by show a.heap.size ≤ (a.heap ++ os).size; simp, fun i hi => by show (a.heap ++ os)[i]? = a.heap[i]?; rw [Array.getElem?_append_left hi]⟩
theorem ints_bvl : ∀ (a : List UInt8), ints (List.replicate a.length .u8) (a.map fun x => (x.toNat : Int)) = a.map bv
  | [] => rfl
  | x :: a => by
    have := ints_bvl a
    unfold ints at this ⊢
    rw [List.length_cons, List.replicate_succ, List.map_cons, List.zipWith_cons_cons, this]
    rfl
theorem ints_bv (a : List UInt8) (h : a.length = 16) : ints (List.replicate 16 .u8) (a.map fun x => (x.toNat : Int)) = a.map bv := by
  rw [← h]; exact ints_bvl a
set_option maxRecDepth 1000000 in
set_option maxHeartbeats 2000000 in
theorem adLess_grew (a b : List UInt8) (ha : a.length = 16) (hb : b.length = 16) (w : World) :
    Calls Tryd.prog 55 #[.agg (a.map bv).toArray, .agg (b.map bv).toArray] w fun e w' => e = .returned (.bool (lessL a b)) ∧ Grew w w' := by
  obtain ⟨W2, hW2⟩ : ∃ W2, W2 = (w.alloc (.cells (a.map bv).toArray 38)).alloc (.cells (b.map bv).toArray 38) := ⟨_, rfl⟩
  have hA : Blk W2 w.heap.size 38 (a.map bv) := by rw [hW2]; exact (Blk.new_at _ _ _ rfl).alloc _
  have hB : Blk W2 (w.heap.size + 1) 38 (b.map bv) := by rw [hW2]; exact Blk.new_at _ _ _ (by simp)
  have hG : Grew w W2 := by rw [hW2]; exact ((Grew.refl w).alloc _).alloc _
  go_enter Tryd.func55, Tryd.ntmps55
  go_wp2
  rw [← hW2]
  have HA := hid hA
  have HB := hid hB
  have HG := hid hG
  have hne1 : w.heap.size < W2.heap.size := hA.lt
  have hne2 : w.heap.size + 1 < W2.heap.size := hB.lt
  clear hA hB hG hW2
  go_loopw [6] (fun v wr => ∃ (i q : Nat), v = .int .i64 i ∧ i ≤ 16 ∧ wr = W2.drewN q ∧ Hid (a.take i = b.take i)) (fun v _ => 16 - (intOf v).toNat)
  case atStart => exact ⟨0, 0, rfl, Nat.zero_le _, (World.drewN_zero _).symm, hid rfl⟩
  case round =>
    obtain ⟨i, q, rfl, hi, rfl, HT⟩ := hrel
    by_cases h16 : i < 16
    · have cA : W2.cell? ⟨w.heap.size, i, none⟩ = some (.int .u8 ((a[i]'(by omega)).toNat : Int)) := by
        exact HA.out.cell (j := i) (by rw [List.getElem?_map, List.getElem?_eq_getElem (by omega)]; rfl)
      have cB : W2.cell? ⟨w.heap.size + 1, i, none⟩ = some (.int .u8 ((b[i]'(by omega)).toNat : Int)) := by
        exact HB.out.cell (j := i) (by rw [List.getElem?_map, List.getElem?_eq_getElem (by omega)]; rfl)
      have hT2 : Hid ((a[i]'(by omega)) = (b[i]'(by omega)) → a.take (i + 1) = b.take (i + 1)) := hid fun e => by
        rw [List.take_succ_eq_append_getElem (by omega), List.take_succ_eq_append_getElem (by omega), HT.out, e]
      have hL : Hid ((a[i]'(by omega)) ≠ (b[i]'(by omega)) → lessL a b = decide (((a[i]'(by omega)).toNat : Int) < (b[i]'(by omega)).toNat)) := hid fun e => lessL_at i a b (by omega) (by omega) HT.out e
      generalize (a[i]'(by omega)) = x at cA hT2 hL
      generalize (b[i]'(by omega)) = y at cB hT2 hL
      have hxi : x = y ↔ (x.toNat : Int) = y.toNat := ⟨fun e => by rw [e], fun e => UInt8.toNat_inj.mp (by omega)⟩
      by_cases hxy : (x.toNat : Int) = y.toNat
      · go_wp2_with fail
        go_quiet (fail)
        go_wp2
        go_roundw
        case rel => exact ⟨i + 1, _, by rfl, by omega, by rfl, hid (hT2.out (hxi.mpr hxy))⟩
        case measure => simp only [intOf]; omega
      · have hle := hL.out fun e => hxy (hxi.mp e)
        go_wp2_with fail
        go_quiet (fail)
        go_wp2_with fail
        go_quiet (fail)
        go_wp2
        go_ret
        exact ⟨by rw [hle, show decide ((x.toNat : Int) < y.toNat) = decide (x.toNat < y.toNat) by simp]; rfl, ((HG.out.drewN _).drewN _).drewN _⟩
    · have hab : a = b := by
        have := HT.out
        rwa [List.take_of_length_le (by omega), List.take_of_length_le (by omega)] at this
      subst hab
      have hA2 : Blk (W2.drewN q) w.heap.size 38 (a.map bv) := HA.out
      have hB2 : Blk (W2.drewN q) (w.heap.size + 1) 38 (a.map bv) := HB.out
      have HLA := hid (hA2.ld_all (P := Tryd.prog) Tryd.underlying38 rfl (by rw [List.length_map, ha]; kernel_rfl))
      have HLB := hid (hB2.ld_all (P := Tryd.prog) Tryd.underlying38 rfl (by rw [List.length_map, ha]; kernel_rfl))
      have hq : ∀ W : World, (binOp .neq 38 (.agg (a.map bv).toArray) (.agg (a.map bv).toArray)).run Tryd.prog W = .ok (.bool false) W := fun W => by
        have h := neq_flat (P := Tryd.prog) (d := 3) (t := 38) (ks := List.replicate 16 .u8) (by kernel_rfl) rfl (by kernel_rfl) (ns := a.map fun x => (x.toNat : Int)) (ms := a.map fun x => (x.toNat : Int)) (by simp [ha]) (by simp [ha]) W
        rw [show ints (List.replicate 16 .u8) (a.map fun x => (x.toNat : Int)) = a.map bv from ints_bv a ha, show ((a.map fun x => (x.toNat : Int)) != (a.map fun x => (x.toNat : Int))) = false by simp] at h
        exact h
      have hgd := fun W : World => run_eqGuard_agg (P := Tryd.prog) W .neq 38 (.tmp 24) (.tmp 25) (a.map bv).toArray (a.map bv).toArray (by kernel_rfl)
      clear hA2 hB2
      go_wp2_with (with_reducible refine wpList_ld rfl (.agg (a.map bv).toArray) 38 (.tmp 2) (.pointer (some ⟨w.heap.size, 0, none⟩)) rfl rfl (HLA.out) ?_; refine stop ?_)
      refine Stop.on ?_
      go_wp2_with (with_reducible refine wpList_ld rfl (.agg (a.map bv).toArray) 38 (.tmp 3) (.pointer (some ⟨w.heap.size + 1, 0, none⟩)) rfl rfl (HLB.out) ?_; refine stop ?_)
      refine Stop.on ?_
      go_wp2
      go_ret
      exact ⟨by rw [lessL_irr]; rfl, HG.out.drewN _⟩
theorem neqA (a b : List UInt8) (ha : a.length = 16) (hb : b.length = 16) (W : World) : (binOp .neq 38 (.agg (a.map bv).toArray) (.agg (b.map bv).toArray)).run Tryd.prog W = .ok (.bool (!(a == b))) W := by
  have h := neq_flat (P := Tryd.prog) (d := 3) (t := 38) (ks := List.replicate 16 .u8) (by kernel_rfl) rfl (by kernel_rfl) (ns := a.map fun x => (x.toNat : Int)) (ms := b.map fun x => (x.toNat : Int)) (by simp [ha]) (by simp [hb]) W
  rw [ints_bv a ha, ints_bv b hb] at h
  rw [h]
  have hinj : (a.map fun x => (x.toNat : Int)) = (b.map fun x => (x.toNat : Int)) ↔ a = b := by
    constructor
    · intro e
      refine List.map_inj_right (f := fun x : UInt8 => (x.toNat : Int)) (fun x y e => UInt8.toNat_inj.mp (by omega)) |>.mp e
    · rintro rfl; rfl
  by_cases c : a = b
  · subst c; simp
  · have h1 : ((a.map fun x => (x.toNat : Int)) != (b.map fun x => (x.toNat : Int))) = true := by
      simp only [bne_iff_ne, ne_eq]
      exact fun e => c (hinj.mp e)
    rw [h1, show (a == b) = false by simpa using c]
    rfl
theorem flC_len {s d : List UInt8} {sp dp : Int} (hs : s.length = 16) (hd : d.length = 16) : (flC s sp d dp).length = 34 := by
  unfold flC
  simp [hs, hd]
theorem flC_ps {s d : List UInt8} {sp dp : Int} (hs : s.length = 16) : ((flC s sp d dp).drop 0).take 16 = s.map bv := by
  unfold flC
  rw [List.drop_zero, List.take_append_of_le_length (by simp [hs]), List.take_of_length_le (by simp [hs])]
theorem flC_pd {s d : List UInt8} {sp dp : Int} (hs : s.length = 16) (hd : d.length = 16) : ((flC s sp d dp).drop 17).take 16 = d.map bv := by
  unfold flC
  rw [List.drop_append, List.drop_of_length_le (by simp [hs]), List.length_map, hs, List.nil_append]
  show ((d.map bv) ++ _).take 16 = _
  rw [List.take_append_of_le_length (by simp [hd]), List.take_of_length_le (by simp [hd])]
set_option maxRecDepth 1000000 in
set_option maxHeartbeats 4000000 in
theorem flLess_grew (s d : List UInt8) (sp dp : Int) (sx dx : List UInt8) (spx dpx : Int) (hs : s.length = 16) (hd : d.length = 16) (hsx : sx.length = 16) (hdx : dx.length = 16) (w : World) :
    Calls Tryd.prog 28 #[.agg (flC s sp d dp).toArray, .agg (flC sx spx dx dpx).toArray] w fun e w' => e = .returned (.bool (flLs s sp d dp sx spx dx dpx)) ∧ Grew w w' := by
  have hA : Blk ((w.alloc (.cells (flC s sp d dp).toArray 40)).alloc (.cells (flC sx spx dx dpx).toArray 40)) w.heap.size 40 (flC s sp d dp) := (Blk.new_at _ _ _ rfl).alloc _
  have hB : Blk ((w.alloc (.cells (flC s sp d dp).toArray 40)).alloc (.cells (flC sx spx dx dpx).toArray 40)) (w.heap.size + 1) 40 (flC sx spx dx dpx) := Blk.new_at _ _ _ (by simp)
  have hG : Grew w ((w.alloc (.cells (flC s sp d dp).toArray 40)).alloc (.cells (flC sx spx dx dpx).toArray 40)) := ((Grew.refl w).alloc _).alloc _
  have a1 := hA.ld (P := Tryd.prog) (t := 38) Tryd.underlying38 rfl (m := 16) (by kernel_rfl) (o := 0) (by rw [flC_len hs hd]; omega)
  have a2 := hB.ld (P := Tryd.prog) (t := 38) Tryd.underlying38 rfl (m := 16) (by kernel_rfl) (o := 0) (by rw [flC_len hsx hdx]; omega)
  have a3 := hA.ld (P := Tryd.prog) (t := 38) Tryd.underlying38 rfl (m := 16) (by kernel_rfl) (o := 17) (by rw [flC_len hs hd]; omega)
  have a4 := hB.ld (P := Tryd.prog) (t := 38) Tryd.underlying38 rfl (m := 16) (by kernel_rfl) (o := 17) (by rw [flC_len hsx hdx]; omega)
  rw [flC_ps hs] at a1
  rw [flC_ps hsx] at a2
  rw [flC_pd hs hd] at a3
  rw [flC_pd hsx hdx] at a4
  have c1 := hA.cell (j := 16) (flC_sp hs)
  have c2 := hB.cell (j := 16) (flC_sp hsx)
  have c3 := hA.cell (j := 33) (flC_dp hs hd)
  have c4 := hB.cell (j := 33) (flC_dp hsx hdx)
  have A1 := hid a1
  have A2 := hid a2
  have A3 := hid a3
  have A4 := hid a4
  have HG := hid hG
  have hn1 := neqA s sx hs hsx
  have hn2 := neqA d dx hd hdx
  have hg1 := fun (W : World) (x y : Operand) => run_eqGuard_agg (P := Tryd.prog) W .neq 38 x y (s.map bv).toArray (sx.map bv).toArray (by kernel_rfl)
  have hg2 := fun (W : World) (x y : Operand) => run_eqGuard_agg (P := Tryd.prog) W .neq 38 x y (d.map bv).toArray (dx.map bv).toArray (by kernel_rfl)
  clear hA hB hG a1 a2 a3 a4
  go_enter Tryd.func28, Tryd.ntmps28
  go_wp2_with (with_reducible refine wpList_ld rfl (.agg (s.map bv).toArray) 38 (.tmp 6) (.pointer (some ⟨w.heap.size, 0, none⟩)) rfl rfl (A1.out) ?_; refine stop ?_)
  refine Stop.on ?_
  go_wp2_with (with_reducible refine wpList_ld rfl (.agg (sx.map bv).toArray) 38 (.tmp 8) (.pointer (some ⟨w.heap.size + 1, 0, none⟩)) rfl rfl (A2.out) ?_; refine stop ?_)
  refine Stop.on ?_
  by_cases k1 : s = sx
  · subst k1
    have e1 : (!(s == s)) = false := by simp
    rw [e1] at hn1
    by_cases k2 : sp = spx
    · subst k2
      have e2 : (sp != sp) = false := by simp
      go_wp2_with (with_reducible refine wpList_ld rfl (.agg (d.map bv).toArray) 38 (.tmp 28) (.pointer (some ⟨w.heap.size, 17, none⟩)) rfl rfl (A3.out) ?_; refine stop ?_)
      refine Stop.on ?_
      go_wp2_with (with_reducible refine wpList_ld rfl (.agg (dx.map bv).toArray) 38 (.tmp 30) (.pointer (some ⟨w.heap.size + 1, 17, none⟩)) rfl rfl (A4.out) ?_; refine stop ?_)
      refine Stop.on ?_
      by_cases k3 : d = dx
      · subst k3
        have e3 : (!(d == d)) = false := by simp
        have hF : flLs s sp d dp s sp d dpx = decide (dp < dpx) := by unfold flLs; rw [e1, e2, e3]; rfl
        rw [e3] at hn2
        go_wp2
        go_ret
        exact ⟨by rw [hF]; rfl, HG.out⟩
      · have e3 : (!(d == dx)) = true := by simp [k3]
        have hF : flLs s sp d dp s sp dx dpx = lessL d dx := by unfold flLs; rw [e1, e2, e3]; rfl
        rw [e3] at hn2
        go_wp2_with (with_reducible refine wpList_ld rfl (.agg (d.map bv).toArray) 38 (.tmp 33) (.pointer (some ⟨w.heap.size, 17, none⟩)) rfl rfl (A3.out) ?_; refine stop ?_)
        refine Stop.on ?_
        go_wp2_with (with_reducible refine wpList_ld rfl (.agg (dx.map bv).toArray) 38 (.tmp 35) (.pointer (some ⟨w.heap.size + 1, 17, none⟩)) rfl rfl (A4.out) ?_; refine stop ?_)
        refine Stop.on ?_
        go_wp2_with fail
        refine (adLess_grew d dx hd hdx _).mono ?_
        rintro e w' ⟨rfl, hw'⟩
        go_wp2
        go_ret
        exact ⟨by rw [hF]; rfl, HG.out.trans hw'⟩
    · have e2 : (sp != spx) = true := by simp [k2]
      have hF : flLs s sp d dp s spx dx dpx = decide (sp < spx) := by unfold flLs; rw [e1, e2]; rfl
      go_wp2
      go_ret
      exact ⟨by rw [hF]; rfl, HG.out⟩
  · have e1 : (!(s == sx)) = true := by simp [k1]
    have hF : flLs s sp d dp sx spx dx dpx = lessL s sx := by unfold flLs; rw [e1]; rfl
    rw [e1] at hn1
    go_wp2_with (with_reducible refine wpList_ld rfl (.agg (s.map bv).toArray) 38 (.tmp 11) (.pointer (some ⟨w.heap.size, 0, none⟩)) rfl rfl (A1.out) ?_; refine stop ?_)
    refine Stop.on ?_
    go_wp2_with (with_reducible refine wpList_ld rfl (.agg (sx.map bv).toArray) 38 (.tmp 13) (.pointer (some ⟨w.heap.size + 1, 0, none⟩)) rfl rfl (A2.out) ?_; refine stop ?_)
    refine Stop.on ?_
    go_wp2_with fail
    refine (adLess_grew s sx hs hsx _).mono ?_
    rintro e w' ⟨rfl, hw'⟩
    go_wp2
    go_ret
    exact ⟨by rw [hF]; rfl, HG.out.trans hw'⟩
end Go.Proofs.YtpoeinajedbfoaaDoor

namespace Go.Proofs
open Go.Shelf
def Tryd.sortFl_ren : Ren :=
  { f := fun x => match x with | 6 => 66 | 15 => 79 | 14 => 78 | 28 => 99 | 29 => 100 | 20 => 91 | 21 => 92 | 22 => 93 | 23 => 94 | 24 => 95 | 25 => 96 | 26 => 97 | 27 => 98 | 46 => 112 | 47 => 113 | 48 => 114 | 49 => 115 | 50 => 116 | 57 => 122 | n => n, t := fun x => match x with | 22 => 50 | 24 => 40 | 25 => 95 | 3 => 3 | 39 => 108 | 0 => 0 | 53 => 130 | 55 => 88 | 4 => 4 | 46 => 123 | 45 => 122 | 50 => 127 | 5 => 5 | 9 => 9 | 66 => 135 | 70 => 139 | 76 => 148 | 77 => 114 | n => n, g := fun x => have n := x; n }
theorem Tryd.sortFl : SlLaysF0.n6 Tryd.prog Tryd.sortFl_ren := {
  mixed := by kernel_rfl
  f6 := ⟨ "slices.SortFunc[[]harrier/api.Flow,harrier/api.Flow]", of_decide_eq_true (by kernel_rfl), Tryd.func66.trans (congrArg some (by kernel_rfl))⟩
  f14 := ⟨ "slices.pdqsortCmpFunc[harrier/api.Flow]", of_decide_eq_true (by kernel_rfl), Tryd.func78.trans (congrArg some (by kernel_rfl))⟩
  f15 := Tryd.func79.trans (congrArg some (by kernel_rfl))
  f20 := ⟨ "slices.insertionSortCmpFunc[harrier/api.Flow]", of_decide_eq_true (by kernel_rfl), Tryd.func91.trans (congrArg some (by kernel_rfl))⟩
  f21 := ⟨ "slices.heapSortCmpFunc[harrier/api.Flow]", of_decide_eq_true (by kernel_rfl), Tryd.func92.trans (congrArg some (by kernel_rfl))⟩
  f22 := ⟨ "slices.breakPatternsCmpFunc[harrier/api.Flow]", of_decide_eq_true (by kernel_rfl), Tryd.func93.trans (congrArg some (by kernel_rfl))⟩
  f23 := ⟨ "slices.choosePivotCmpFunc[harrier/api.Flow]", of_decide_eq_true (by kernel_rfl), Tryd.func94.trans (congrArg some (by kernel_rfl))⟩
  f24 := ⟨ "slices.reverseRangeCmpFunc[harrier/api.Flow]", of_decide_eq_true (by kernel_rfl), Tryd.func95.trans (congrArg some (by kernel_rfl))⟩
  f25 := ⟨ "slices.partialInsertionSortCmpFunc[harrier/api.Flow]", of_decide_eq_true (by kernel_rfl), Tryd.func96.trans (congrArg some (by kernel_rfl))⟩
  f26 := ⟨ "slices.partitionEqualCmpFunc[harrier/api.Flow]", of_decide_eq_true (by kernel_rfl), Tryd.func97.trans (congrArg some (by kernel_rfl))⟩
  f27 := ⟨ "slices.partitionCmpFunc[harrier/api.Flow]", of_decide_eq_true (by kernel_rfl), Tryd.func98.trans (congrArg some (by kernel_rfl))⟩
  f28 := Tryd.func99.trans (congrArg some (by kernel_rfl))
  f29 := Tryd.func100.trans (congrArg some (by kernel_rfl))
  f46 := ⟨ "slices.siftDownCmpFunc[harrier/api.Flow]", of_decide_eq_true (by kernel_rfl), Tryd.func112.trans (congrArg some (by kernel_rfl))⟩
  f47 := Tryd.func113.trans (congrArg some (by kernel_rfl))
  f48 := Tryd.func114.trans (congrArg some (by kernel_rfl))
  f49 := ⟨ "slices.medianAdjacentCmpFunc[harrier/api.Flow]", of_decide_eq_true (by kernel_rfl), Tryd.func115.trans (congrArg some (by kernel_rfl))⟩
  f50 := ⟨ "slices.medianCmpFunc[harrier/api.Flow]", of_decide_eq_true (by kernel_rfl), Tryd.func116.trans (congrArg some (by kernel_rfl))⟩
  f57 := ⟨ "slices.order2CmpFunc[harrier/api.Flow]", of_decide_eq_true (by kernel_rfl), Tryd.func122.trans (congrArg some (by kernel_rfl))⟩
  t0 := Tryd.underlying0
  a0 := Tryd.isAgg0
  z0 := Tryd.sizeOf0
  v0 := Tryd.zeroValue0
  t3 := Tryd.underlying3
  a3 := Tryd.isAgg3
  z3 := Tryd.sizeOf3
  v3 := Tryd.zeroValue3
  t4 := Tryd.underlying4
  a4 := Tryd.isAgg4
  z4 := Tryd.sizeOf4
  v4 := Tryd.zeroValue4
  t5 := Tryd.underlying5
  a5 := Tryd.isAgg5
  z5 := Tryd.sizeOf5
  v5 := Tryd.zeroValue5
  t9 := Tryd.underlying9
  a9 := Tryd.isAgg9
  z9 := Tryd.sizeOf9
  v9 := Tryd.zeroValue9
  t22 := Tryd.underlying50
  a22 := Tryd.isAgg50
  z22 := Tryd.sizeOf50
  v22 := Tryd.zeroValue50
  t25 := Tryd.underlying95
  a25 := Tryd.isAgg95
  z25 := Tryd.sizeOf95
  v25 := Tryd.zeroValue95
  t39 := Tryd.underlying108
  a39 := Tryd.isAgg108
  z39 := Tryd.sizeOf108
  v39 := Tryd.zeroValue108
  t45 := Tryd.underlying122
  a45 := Tryd.isAgg122
  z45 := Tryd.sizeOf122
  v45 := Tryd.zeroValue122
  t46 := Tryd.underlying123
  a46 := Tryd.isAgg123
  z46 := Tryd.sizeOf123
  v46 := Tryd.zeroValue123
  t50 := Tryd.underlying127
  a50 := Tryd.isAgg127
  z50 := Tryd.sizeOf127
  v50 := Tryd.zeroValue127
  t53 := Tryd.underlying130
  a53 := Tryd.isAgg130
  z53 := Tryd.sizeOf130
  v53 := Tryd.zeroValue130
  t55 := Tryd.underlying88
  a55 := Tryd.isAgg88
  z55 := Tryd.sizeOf88
  v55 := Tryd.zeroValue88
  t66 := Tryd.underlying135
  a66 := Tryd.isAgg135
  z66 := Tryd.sizeOf135
  v66 := Tryd.zeroValue135
  t70 := Tryd.underlying139
  a70 := Tryd.isAgg139
  z70 := Tryd.sizeOf139
  v70 := Tryd.zeroValue139
  t76 := Tryd.underlying148
  a76 := Tryd.isAgg148
  z76 := Tryd.sizeOf148
  v76 := Tryd.zeroValue148
  t77 := Tryd.underlying114
  a77 := Tryd.isAgg114
  z77 := Tryd.sizeOf114
  v77 := Tryd.zeroValue114 }
end Go.Proofs

namespace Go.Sort
end Go.Sort
namespace Go.Proofs.YtpoeinajedbfoaaDoor
open Go Go.RowKit Go.Mix Go.Bas Go.Sort
set_option maxRecDepth 100000
/-- what the closure answers -/
def cfI (a b : Bool) : Int := if a = true then -1 else if b = true then 1 else 0
set_option maxRecDepth 1000000 in
set_option maxHeartbeats 4000000 in
theorem cmp_grew (s d : List UInt8) (sp dp : Int) (sx dx : List UInt8) (spx dpx : Int) (hs : s.length = 16) (hd : d.length = 16) (hsx : sx.length = 16) (hdx : dx.length = 16) (k : Nat) (w : World) (hk : w.cell? ⟨k, 0, none⟩ = some (.func (.func 28) #[] #[])) :
    Calls Tryd.prog 67 #[.agg (flC s sp d dp).toArray, .agg (flC sx spx dx dpx).toArray, .pointer (some ⟨k, 0, none⟩)] w fun e w' => e = .returned (.int .i64 (cfI (flLs s sp d dp sx spx dx dpx) (flLs sx spx dx dpx s sp d dp))) ∧ Grew w w' := by
  have hA : Blk ((w.alloc (.cells (flC s sp d dp).toArray 40)).alloc (.cells (flC sx spx dx dpx).toArray 40)) w.heap.size 40 (flC s sp d dp) := (Blk.new_at _ _ _ rfl).alloc _
  have hB : Blk ((w.alloc (.cells (flC s sp d dp).toArray 40)).alloc (.cells (flC sx spx dx dpx).toArray 40)) (w.heap.size + 1) 40 (flC sx spx dx dpx) := Blk.new_at _ _ _ (by simp)
  have hG : Grew w ((w.alloc (.cells (flC s sp d dp).toArray 40)).alloc (.cells (flC sx spx dx dpx).toArray 40)) := ((Grew.refl w).alloc _).alloc _
  have hkl : k < w.heap.size := by
    rcases Nat.lt_or_ge k w.heap.size with h | h
    · exact h
    · simp [World.cell?, Array.getElem?_eq_none h] at hk
  have hk2 : ((w.alloc (.cells (flC s sp d dp).toArray 40)).alloc (.cells (flC sx spx dx dpx).toArray 40)).cell? ⟨k, 0, none⟩ = some (.func (.func 28) #[] #[]) := (hG.below.cell (p := ⟨k, 0, none⟩) hkl).trans hk
  have z1 : (Tryd.prog.info? 40).map (·.size) = some (flC s sp d dp).length := by rw [flC_len hs hd]; kernel_rfl
  have z2 : (Tryd.prog.info? 40).map (·.size) = some (flC sx spx dx dpx).length := by rw [flC_len hsx hdx]; kernel_rfl
  have A1 := hid (hA.ld_all (P := Tryd.prog) Tryd.underlying40 rfl z1)
  have B1 := hid (hB.ld_all (P := Tryd.prog) Tryd.underlying40 rfl z2)
  have HA := hid hA
  have HB := hid hB
  have HG := hid hG
  have HK := hid hk2
  have Z1 := hid z1
  have Z2 := hid z2
  clear hA hB hG hk z1 z2
  go_enter Tryd.func67, Tryd.ntmps67
  go_wp2_with (with_reducible refine wpList_ld rfl (.agg (flC s sp d dp).toArray) 40 (.tmp 3) (.pointer (some ⟨w.heap.size, 0, none⟩)) rfl rfl (A1.out) ?_; refine stop ?_)
  refine Stop.on ?_
  go_wp2_with (with_reducible refine wpList_ld rfl (.agg (flC sx spx dx dpx).toArray) 40 (.tmp 4) (.pointer (some ⟨w.heap.size + 1, 0, none⟩)) rfl rfl (B1.out) ?_; refine stop ?_)
  refine Stop.on ?_
  clear hk2
  go_wp2_with fail
  refine (flLess_grew s d sp dp sx dx spx dpx hs hd hsx hdx _).mono ?_
  rintro e w1 ⟨rfl, hw1⟩
  have g1 := hw1.below
  have hl1 : w.heap.size < ((w.alloc (.cells (flC s sp d dp).toArray 40)).alloc (.cells (flC sx spx dx dpx).toArray 40)).heap.size := HA.out.lt
  have hl2 : w.heap.size + 1 < ((w.alloc (.cells (flC s sp d dp).toArray 40)).alloc (.cells (flC sx spx dx dpx).toArray 40)).heap.size := HB.out.lt
  have hA1 : Blk w1 w.heap.size 40 (flC s sp d dp) := HA.out.below hl1 g1
  have hB1 : Blk w1 (w.heap.size + 1) 40 (flC sx spx dx dpx) := HB.out.below hl2 g1
  have hk1 : w1.cell? ⟨k, 0, none⟩ = some (.func (.func 28) #[] #[]) := (g1.cell (p := ⟨k, 0, none⟩) (by show k < _; omega)).trans HK.out
  have A2 := hid (hA1.ld_all (P := Tryd.prog) Tryd.underlying40 rfl Z1.out)
  have B2 := hid (hB1.ld_all (P := Tryd.prog) Tryd.underlying40 rfl Z2.out)
  have HG1 := hid (HG.out.trans hw1)
  clear hA1 hB1 g1 hw1 hl1 hl2
  cases h1 : flLs s sp d dp sx spx dx dpx with
  | true =>
    go_wp2
    go_ret
    exact ⟨by rw [h1]; rfl, HG1.out⟩
  | false =>
    go_wp2_with (with_reducible refine wpList_ld rfl (.agg (flC sx spx dx dpx).toArray) 40 (.tmp 4) (.pointer (some ⟨w.heap.size + 1, 0, none⟩)) rfl rfl (B2.out) ?_; refine stop ?_)
    refine Stop.on ?_
    go_wp2_with (with_reducible refine wpList_ld rfl (.agg (flC s sp d dp).toArray) 40 (.tmp 3) (.pointer (some ⟨w.heap.size, 0, none⟩)) rfl rfl (A2.out) ?_; refine stop ?_)
    refine Stop.on ?_
    go_wp2_with fail
    refine (flLess_grew sx dx spx dpx s d sp dp hsx hdx hs hd _).mono ?_
    rintro e w2 ⟨rfl, hw2⟩
    have HG2 := hid (HG1.out.trans hw2)
    clear hw2
    cases h2 : flLs sx spx dx dpx s sp d dp with
    | true =>
      go_wp2
      go_ret
      exact ⟨by rw [h1, h2]; rfl, HG2.out⟩
    | false =>
      go_wp2
      go_ret
      exact ⟨by rw [h1, h2]; rfl, HG2.out⟩
end Go.Proofs.YtpoeinajedbfoaaDoor

namespace Go.Sort
end Go.Sort
namespace Go.Proofs.YtpoeinajedbfoaaDoor
open Go Go.RowKit Go.Mix Go.Bas Go.Sort
open Go.Am (V)
set_option maxRecDepth 100000
/-- flows in full -/
abbrev FwT := {v : V // fwE v = v ∧ fwOk v = true}
def fwZ : V := V.agg [V.barr 16 (List.replicate 16 0), V.int .i64 0, .barr 16 (List.replicate 16 0), .int .i64 0]
instance : Inhabited FwT := ⟨⟨fwZ, rfl, rfl⟩⟩
def fwC (x : FwT) : List Value := flC (fw0 x.1) (fw1 x.1) (fw2 x.1) (fw3 x.1)
def fwCf (x y : FwT) : Int := cfI (fwLt x.1 y.1) (fwLt y.1 x.1)
theorem fwC_len (x : FwT) : (fwC x).length = 34 := flC_len (fwOk_of x.2.2).1 (fwOk_of x.2.2).2
theorem fwC_one (x : FwT) : ∀ v ∈ fwC x, v.oneCell' = true := by
  intro v hv
  unfold fwC flC at hv
  simp only [List.mem_append, List.mem_map, List.mem_cons, List.not_mem_nil, or_false] at hv
  rcases hv with ⟨_, _, rfl⟩ | rfl | ⟨_, _, rfl⟩ | rfl <;> rfl
theorem fwCf_lt (x y : FwT) : ltOf fwCf x y = fwLt x.1 y.1 := by
  unfold ltOf fwCf cfI
  cases fwLt x.1 y.1 <;> cases fwLt y.1 x.1 <;> rfl
theorem fwCf_tot (x y : FwT) (h1 : ltOf fwCf x y = false) (h2 : ltOf fwCf y x = false) : x = y := by
  rw [fwCf_lt] at h1 h2
  have := fwLt_tri x.2.2 y.2.2 h1 h2
  rw [x.2.1, y.2.1] at this
  exact Subtype.ext this
theorem fwCf_swo : SWO (ltOf fwCf) where
  irrefl x := by rw [fwCf_lt]; exact fwLt_irr _
  trans x y z h1 h2 := by rw [fwCf_lt] at *; exact fwLt_trans x.2.2 y.2.2 z.2.2 h1 h2
  ntrans x y z h1 h2 := by
    rw [fwCf_lt] at *
    rw [Bool.eq_false_iff]
    intro h
    cases c : fwLt y.1 x.1 with
    | true => rw [fwLt_trans y.2.2 x.2.2 z.2.2 c h] at h2; cases h2
    | false =>
      have := fwCf_tot x y (by rw [fwCf_lt]; exact h1) (by rw [fwCf_lt]; exact c)
      subst this
      rw [h] at h2; cases h2
theorem srt_cmp (k blk off size : Nat) (w : World) (hk : w.cell? ⟨k, 0, none⟩ = some (.func (.func 28) #[] #[])) (hne : k ≠ blk) : CmpLays Tryd.prog 67 #[.pointer (some ⟨k, 0, none⟩)] fwC 34 fwCf blk off size w := by
  intro m os dk _ x y
  have hkl : k < w.heap.size := by
    rcases Nat.lt_or_ge k w.heap.size with h | h
    · exact h
    · simp [World.cell?, Array.getElem?_eq_none h] at hk
  have hk' : (sortWorldK fwC 34 w blk off m dk os).cell? ⟨k, 0, none⟩ = some (.func (.func 28) #[] #[]) := by
    unfold sortWorldK
    rw [cell?_grow _ _ _ (by show k < _; simp [putRowK, putRow, mapBlock, Sort.ahead]; exact hkl), cell?_putRowK_other (h := hne)]
    exact hk
  have h := cmp_grew (fw0 x.1) (fw2 x.1) (fw1 x.1) (fw3 x.1) (fw0 y.1) (fw2 y.1) (fw1 y.1) (fw3 y.1) (fwOk_of x.2.2).1 (fwOk_of x.2.2).2 (fwOk_of y.2.2).1 (fwOk_of y.2.2).2 k _ hk'
  exact h.mono fun e w' ⟨h1, h2⟩ => ⟨h1, h2⟩
/-! ### rows -/
theorem flat_get {α : Type} [Inhabited α] {enc : α → List Value} {k : Nat} (hk : ∀ x, (enc x).length = k) : ∀ (d : List α) (t : Nat), t < d.length * k → (d.flatMap enc)[t]? = some ((enc d[t / k]!)[t % k]!)
  | [], t, h => by simp at h
  | x :: d, t, h => by
    rw [List.flatMap_cons]
    by_cases ht : t < k
    · rw [List.getElem?_append_left (by rw [hk]; exact ht), Nat.div_eq_of_lt ht, Nat.mod_eq_of_lt ht]
      show (enc x)[t]? = some (enc x)[t]!
      rw [List.getElem?_eq_getElem (by rw [hk]; exact ht), getElem!_pos _ t (by rw [hk]; exact ht)]
    · have h0 : 0 < k := by
        rcases Nat.eq_zero_or_pos k with e | e
        · subst e; simp at h
        · exact e
      have hlt : t - k < d.length * k := by
        rw [List.length_cons, Nat.add_mul] at h; omega
      rw [List.getElem?_append_right (by rw [hk]; omega), hk, flat_get hk d (t - k) hlt]
      have e1 : t / k = (t - k) / k + 1 := by rw [← Nat.add_div_right _ h0, Nat.sub_add_cancel (by omega)]
      have e2 : t % k = (t - k) % k := by rw [← Nat.add_mod_right (t - k) k, Nat.sub_add_cancel (by omega)]
      rw [e1, e2]
      rfl
theorem flatK_list {α : Type} [Inhabited α] {enc : α → List Value} {k : Nat} (hk : ∀ x, (enc x).length = k) (d : List α) : (flatK enc k d.toArray).toList = d.flatMap enc := by
  have hl : (d.flatMap enc).length = d.length * k := by
    induction d with
    | nil => simp
    | cons x d ih => rw [List.flatMap_cons, List.length_append, hk, ih, List.length_cons, Nat.add_mul]; omega
  apply List.ext_getElem?
  intro t
  by_cases ht : t < d.length * k
  · rw [flat_get hk d t ht]
    have := get_flatK enc k d.toArray t (by simpa using ht)
    have hs : t < (flatK enc k d.toArray).size := by simpa using ht
    rw [Array.getElem?_toList, Array.getElem?_eq_getElem hs, ← getElem!_pos (flatK enc k d.toArray) t hs, this]
    simp
  · rw [List.getElem?_eq_none (by simp; omega), List.getElem?_eq_none (by omega)]
theorem grownBy_srt {α : Type} [Inhabited α] {enc : α → Value} {w : World} {g n : Nat} {os : Array Obj} (d : Array α) : w.grownBy (grow (putRow enc (Sort.ahead w n) g 0 d) os) (some g) := by
  refine ⟨rfl, rfl, rfl, by simp, fun k hk hne => ?_⟩
  rw [heap_grow_old _ _ (by simpa using hk)]
  have : g ≠ k := fun e => hne (by rw [e])
  simp [putRow, mapBlock, Sort.ahead, Array.getElem?_modify, this]
theorem heap_srt {α : Type} [Inhabited α] {enc : α → Value} {w : World} {g n : Nat} {os : Array Obj} {cur : Array Value} {e : TypeId} {fr : Nat × Nat} (d : Array α) (hb : w.heap[g]? = some (.cells cur e fr)) :
    (grow (putRow enc (Sort.ahead w n) g 0 d) os).heap[g]? = some (.cells (putCells enc 0 d cur) e fr) := by
  have hg : g < w.heap.size := (Array.getElem?_eq_some_iff.1 hb).1
  rw [heap_grow_old _ _ (by simpa using hg)]
  simp [putRow, mapBlock, Sort.ahead, Array.getElem?_modify, hb, onCells]
theorem take_putId (cur : Array Value) (F : Array Value) (h : F.size ≤ cur.size) : (putCells id 0 F cur).toList.take F.size = F.toList := by
  apply List.ext_getElem?
  intro j
  by_cases hj : j < F.size
  · rw [List.getElem?_take_of_lt hj, Array.getElem?_toList]
    simp [putCells, hj, show j < cur.size by omega]
  · rw [List.getElem?_take_eq_none (by omega), List.getElem?_eq_none (by simp; omega)]
set_option maxRecDepth 8000 in
set_option maxHeartbeats 1000000 in
theorem srt_calls (B blk cap k : Nat) (d : List FwT) (w : World) (hk : w.cell? ⟨k, 0, none⟩ = some (.func (.func 28) #[] #[])) (hne : k ≠ blk) (ho : w.ownsRow B 40 34 (.slice (some ⟨blk, 0, none⟩) d.length cap) d.length (d.flatMap fwC)) (hl : d.length ≤ 1000) (hB : B ≤ w.heap.size) :
    Calls Tryd.prog 66 #[.slice (some ⟨blk, 0, none⟩) d.length cap, .func (.func 67) #[] #[.pointer (some ⟨k, 0, none⟩)]] w fun e w' => e = .returned (.tuple #[]) ∧
      w'.ownsRow B 40 34 (.slice (some ⟨blk, 0, none⟩) d.length cap) d.length ((d.mergeSort fun x y => !fwLt y.1 x.1).flatMap fwC) ∧ Below B w w' := by
  rcases ho.2 with ⟨e, h0⟩ | ⟨g, cap', cur, e, hb, hg, hn, hm, hs, ht⟩
  · cases e
  · injection e with e1 e2 e3
    injection e1 with e1
    injection e1 with e1
    subst e1; subst e3
    have eg : ∀ args w, (callFunc 67 args).run Tryd.prog w = .ok (.enter 67 args) w := enters_of Tryd.func67 (by kernel_rfl) rfl
    have hH : HoldsK fwC 34 w blk 0 d.toArray := by
      intro j hj
      have hj' : j < d.length * 34 := by simpa using hj
      have e1 : (flatK fwC 34 d.toArray).toList[j]? = cur.toList[j]? := by
        rw [flatK_list fwC_len, ← ht, List.getElem?_take_of_lt hj']
      rw [Array.getElem?_toList, Array.getElem?_toList, Array.getElem?_eq_getElem hj] at e1
      refine ⟨?_, ?_⟩
      · rw [Nat.zero_add, cell_of_row w blk j cur _ (0, 0) hg, ← e1, getElem!_pos _ j hj]
        rfl
      · simp [World.frozen?, hg]
    have hS := AnyQ.slices_SortFunc_total Tryd.sortFl 34 Tryd.isAgg40 Tryd.sizeOf40 fwC fwC_len fwC_one fwCf fwCf_swo 67 #[.pointer (some ⟨k, 0, none⟩)] blk 0 cap d.toArray w eg (srt_cmp k blk 0 _ w hk hne) hH (Array.getElem?_eq_some_iff.1 hg).1 (by simp; omega) fwCf_tot
    refine Calls.mono hS ?_
    rintro e w' ⟨rfl, n, os, rfl⟩
    refine ⟨rfl, ?_, ?_⟩
    · have hfun : (fun x y => !ltOf fwCf y x) = fun x y : FwT => !fwLt y.1 x.1 := by funext x y; rw [fwCf_lt]
      rw [hfun]
      have hlm : (d.mergeSort fun x y => !fwLt y.1 x.1).length = d.length := List.length_mergeSort ..
      have hfl := flatK_list fwC_len (d.mergeSort fun x y => !fwLt y.1 x.1)
      have hF : (flatK fwC 34 (d.mergeSort fun x y => !fwLt y.1 x.1).toArray).size = d.length * 34 := by rw [size_flatK]; simp
      refine ⟨by rw [← hfl, Array.length_toList, hF], .inr ⟨blk, cap, _, rfl, hb, heap_srt _ hg, hn, hm, by simp [putCells, hs], ?_⟩⟩
      rw [← hfl, ← hF]
      exact take_putId cur _ (by rw [hF, hs]; exact Nat.mul_le_mul_right _ hn)
    · exact (Below.refl B w).grown (grownBy_srt _) hB fun k h => by injection h with h; omega
end Go.Proofs.YtpoeinajedbfoaaDoor
