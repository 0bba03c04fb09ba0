/- The walks of package six, eighth part: one hop nearer, for somebody else, with its length. -/
import Derived.Test.YtmenonijbcljdaaSixg
namespace Go.Proofs.Ytmenonijbcljdaa
open Go.RowKit Go.Mix Go.Bas

def nearR (l : List UInt8) : Int := if gt l 7 ≤ 1 then 13 else 0
def nearE (l : List UInt8) : Int := errC l (nearR l)
def nearL (l : List UInt8) : List UInt8 := outC l (nearR l) (clsG l) (labG l) (lenG l) (gt l 6) (gt l 7 - 1) ((l.drop 8).take 32)
def toE (l : List UInt8) : Int := errC l 0
def toL (l d : List UInt8) : List UInt8 := outC l 0 (clsG l) (labG l) (lenG l) (gt l 6) (gt l 7) ((l.drop 8).take 16 ++ d)
def sizR (l : List UInt8) : Int := if 65535 < (l.length : Int) - 40 then 4 else 0
def sizE (l : List UInt8) : Int := errC l (sizR l)
def sizL (l : List UInt8) : List UInt8 := outC l (sizR l) (clsG l) (labG l) ((l.length : Int) - 40) (gt l 6) (gt l 7) ((l.drop 8).take 32)

theorem headG_eq {l : List UInt8} (h : errG l = 0) : headG l = headL (clsG l) (labG l) (lenG l) (gt l 6) (gt l 7) ((l.drop 8).take 32) := by unfold headG; rw [if_pos h]
theorem sd_len {l : List UInt8} (h : errG l = 0) : ((l.drop 8).take 32).length = 32 := by have := (errG_zero h).1; simp; omega

def HowP (g : Nat) (er c la ln nx hp : Int) (sd : List UInt8) (w : World) (e : Ending) (w' : World) : Prop :=
  e = .returned (.int .i64 er) ∧ (er = 0 → Blk w' g 38 (headL c la ln nx hp sd)) ∧ Below g w w'

set_option maxRecDepth 8000 in
set_option maxHeartbeats 1000000 in
theorem near_how (g : Nat) (c la ln nx hp : Int) (sd : List UInt8) (w : World) (h : Blk w g 38 (headL c la ln nx hp sd)) (h0 : 0 ≤ hp) (h1 : hp < 256) :
    Calls Try.prog 104 #[.pointer (some ⟨g, 0, none⟩)] w (HowP g (if hp ≤ 1 then 13 else 0) c la ln nx (hp - 1) sd w) := by
  have c4 := h.cell (j := 4) rfl
  have z4 := h.free 4
  have HH := hid h
  clear h
  by_cases k : hp ≤ 1
  · rw [if_pos k]
    go_enter Try.func104, Try.ntmps104
    go_wp2
    go_ret
    exact ⟨rfl, (fun h => absurd h (by decide)), Below.refl _ _⟩
  · rw [if_neg k]
    go_enter Try.func104, Try.ntmps104
    go_wp2
    go_ret
    exact ⟨rfl, fun _ => HH.out.set 4 _, (Below.refl g w).setCell (p := ⟨g, 4, none⟩) (Nat.le_refl _) _⟩

set_option maxRecDepth 8000 in
set_option maxHeartbeats 1000000 in
theorem Nearer_calls (A : Option Addr) (k cp : Nat) (l : List UInt8) (w : World) (h : Bs w A k cp l) (hsz : k ≤ 140737488351232) :
    Calls Try.prog 40 #[.slice A k cp] w fun e w' => ∃ A' n' c', e = .returned (.tuple #[.slice A' n' c', .int .i64 (nearE l)]) ∧ Own w' w.heap.size 5 A' n' c' (nearL l) ∧ Below w.heap.size w w' := by
  go_enter Try.func40, Try.ntmps40
  go_wp2_with fail
  refine (change_calls 104 #[] A k cp l (nearR l) (clsG l) (labG l) (lenG l) (gt l 6) (gt l 7 - 1) ((l.drop 8).take 32) _ h hsz (enters_of Try.func104 (by kernel_rfl) rfl) (fun h _ => sd_len h) (fun he w1 g hb _ _ => ?_)).mono ?_
  · rw [headG_eq he] at hb
    exact near_how g _ _ _ _ _ _ w1 hb (gt_lo _ _) (gt_hi _ _)
  · rintro e w' ⟨A', n', c', rfl, ho, hb⟩
    change Own w' w.heap.size _ A' n' c' (nearL l) at ho
    rw [show errC l (nearR l) = nearE l from rfl]
    go_wp2
    go_ret2
    exact ⟨_, _, _, rfl, ho, hb⟩

set_option maxRecDepth 8000 in
set_option maxHeartbeats 1000000 in
theorem to_how (g g0 : Nat) (c la ln nx hp : Int) (sd d : List UInt8) (w : World) (h : Blk w g 38 (headL c la ln nx hp sd)) (hd : Blk w g0 36 (d.map bv)) (hsd : sd.length = 32) (hdl : d.length = 16) :
    Calls Try.prog 106 #[.pointer (some ⟨g, 0, none⟩), .pointer (some ⟨g0, 0, none⟩)] w (HowP g 0 c la ln nx hp (sd.take 16 ++ d) w) := by
  have hi0 : (Try.prog.info? 36).map (·.size) = some (d.map bv).length := by rw [List.length_map, hdl]; kernel_rfl
  have hld := hd.ld_all (P := Try.prog) Try.underlying36 rfl hi0
  have HLD := hid hld
  have HI0 := hid hi0
  have HH := hid h
  have HDL := hid hdl
  have HN : Hid (21 + (d.map bv).length ≤ (headL c la ln nx hp sd).length) := hid (by rw [List.length_map, hdl, headL_len hsd]; omega)
  have HSD := hid hsd
  clear h hd hsd hdl hld hi0
  go_enter Try.func106, Try.ntmps106
  go_wp2_with (with_reducible refine wpList_ld rfl (.agg (d.map bv).toArray) 36 (.tmp 1) (.pointer (some ⟨g0, 0, none⟩)) rfl rfl (HLD.out) ?_; refine stop ?_)
  refine Stop.on ?_
  go_wp2_with (with_reducible refine Blk.wpList_st rfl 36 (.tmp 7) (.tmp 5) rfl (HH.out) (g := g) (o := 21) rfl rfl HN.out HI0.out (bv_one d) ?_; refine stop ?_)
  refine Stop.on ?_
  go_wp2
  go_ret
  refine ⟨rfl, fun _ => ?_, below_setCells (Nat.le_refl _) _ 21 (Below.refl _ _)⟩
  have := HH.out.sets (d.map bv) 21 HN.out
  rw [List.length_map] at this
  have e := headL_sets (c := c) (la := la) (ln := ln) (nx := nx) (hp := hp) (sd := sd) (l := d) (i := 16)
  rw [show 21 = 5 + 16 from rfl, e, show sd.drop (16 + d.length) = [] from List.drop_eq_nil_of_le (by rw [HSD.out, HDL.out]; omega), List.append_nil] at this
  exact this

set_option maxRecDepth 8000 in
set_option maxHeartbeats 1000000 in
theorem To_calls (A : Option Addr) (k cp : Nat) (l d : List UInt8) (w : World) (h : Bs w A k cp l) (hsz : k ≤ 140737488351232) (hdl : d.length = 16) :
    Calls Try.prog 42 #[.slice A k cp, .agg (d.map bv).toArray] w fun e w' => ∃ A' n' c', e = .returned (.tuple #[.slice A' n' c', .int .i64 (toE l)]) ∧ Own w' w.heap.size 5 A' n' c' (toL l d) ∧ Below w.heap.size w w' := by
  have hmf : ∀ (fn : Fn) (first cap : Array Value) (w : World), (Instr.makeFunc fn first cap).run Try.prog w = .ok (.func fn first cap) w := fun _ _ _ _ => rfl
  have hd := Blk.new w 36 (d.map bv)
  have HD := hid hd
  clear hd
  go_enter Try.func42, Try.ntmps42
  go_wp2_with fail
  refine (change_calls 106 #[.pointer (some ⟨w.heap.size, 0, none⟩)] A k cp l 0 (clsG l) (labG l) (lenG l) (gt l 6) (gt l 7) ((l.drop 8).take 16 ++ d) _ (h.alloc _) hsz (enters_of Try.func106 (by kernel_rfl) rfl) (fun h _ => by have := (errG_zero h).1; simp; omega) (fun he w1 g hb _ hbw => ?_)).mono ?_
  · rw [headG_eq he] at hb
    have := to_how g w.heap.size _ _ _ _ _ _ d w1 hb (HD.out.step hbw) (sd_len he) hdl
    rwa [List.take_take] at this
  · rintro e w' ⟨A', n', c', rfl, ho, hb⟩
    have ho' : Own w' w.heap.size 5 A' n' c' (toL l d) := Own.mono (base := (w.alloc (.cells (d.map bv).toArray 36)).heap.size) ho (by simp)
    have hb' := ((Below.refl w.heap.size w).alloc (Nat.le_refl _) (.cells (d.map bv).toArray 36)).trans (hb.mono (by simp))
    rw [show errC l 0 = toE l from rfl]
    clear ho hb
    go_wp2
    go_ret2
    exact ⟨_, _, _, rfl, ho', hb'⟩

set_option maxRecDepth 8000 in
set_option maxHeartbeats 1000000 in
theorem siz_how (g g0 : Nat) (A : Option Addr) (k cp : Nat) (c la ln nx hp : Int) (sd : List UInt8) (w : World) (h : Blk w g 38 (headL c la ln nx hp sd)) (hd : Blk w g0 22 [.slice A k cp]) (hsd : sd.length = 32)
    (hk : 40 ≤ k) (hk2 : k ≤ 140737488351232) (a0 : 0 ≤ c ∧ c ≤ 255) (a1 : 0 ≤ la ∧ la ≤ 1048575) (a2 : 0 ≤ nx ∧ nx ≤ 255) (a3 : 0 ≤ hp ∧ hp ≤ 255) :
    Calls Try.prog 107 #[.pointer (some ⟨g, 0, none⟩), .pointer (some ⟨g0, 0, none⟩)] w (HowP g (if 65535 < (k : Int) - 40 then 4 else 0) c la ((k : Int) - 40) nx hp sd w) := by
  have c2 := h.cell (j := 2) rfl
  have z2 := h.free 2
  have hc0 := hd.cell (j := 0) rfl
  have hok : okH c la ((k : Int) - 40) nx hp ↔ ¬ 65535 < (k : Int) - 40 := by unfold okH; omega
  have HOK := hid hok
  have hb2 := h.set 2 (.int .i64 ((k : Int) - 40))
  have hld := hb2.ld_all (P := Try.prog) Try.underlying38 rfl (by rw [List.length_set, headL_len hsd]; kernel_rfl)
  have HB2 : Hid (Blk (w.setCell ⟨g, 2, none⟩ (.int .i64 ((k : Int) - 40))) g 38 (headL c la ((k : Int) - 40) nx hp sd)) := hid hb2
  have HLD : Hid ((Instr.loadAt 38 (.pointer (some ⟨g, 0, none⟩))).run Try.prog (w.setCell ⟨g, 2, none⟩ (.int .i64 ((k : Int) - 40))) = .ok (.agg (headL c la ((k : Int) - 40) nx hp sd).toArray) (w.setCell ⟨g, 2, none⟩ (.int .i64 ((k : Int) - 40)))) := hid hld
  have HSD := hid hsd
  have hgl := h.lt
  clear hok h hd hsd hb2 hld
  by_cases k0 : 65535 < (k : Int) - 40
  · rw [if_pos k0]
    have hcan : canH c la ((k : Int) - 40) nx hp = 2 := by unfold canH; rw [if_neg (fun h => HOK.out.1 h k0)]
    have HC := hid hcan
    clear hcan k0
    go_enter Try.func107, Try.ntmps107
    go_wp2_with (with_reducible refine wpList_ld rfl (.agg (headL c la ((k : Int) - 40) nx hp sd).toArray) 38 (.tmp 11) (.pointer (some ⟨g, 0, none⟩)) rfl rfl (HLD.out) ?_; refine stop ?_)
    refine Stop.on ?_
    go_wp2_with fail
    refine (CanH_calls _ _ _ _ _ _ _ HSD.out).mono ?_; rintro e w2 ⟨rfl, hb2⟩
    rw [HC.out]
    have HW2 := hid hb2
    clear hb2
    go_wp2
    go_ret
    exact ⟨rfl, (fun h => absurd h (by decide)), ((Below.refl g w).setCell (p := ⟨g, 2, none⟩) (Nat.le_refl _) _).trans (HW2.out.mono (by simp; omega))⟩
  · rw [if_neg k0]
    have hcan : canH c la ((k : Int) - 40) nx hp = 0 := by unfold canH; rw [if_pos (HOK.out.2 k0)]
    have HC := hid hcan
    clear hcan k0
    go_enter Try.func107, Try.ntmps107
    go_wp2_with (with_reducible refine wpList_ld rfl (.agg (headL c la ((k : Int) - 40) nx hp sd).toArray) 38 (.tmp 11) (.pointer (some ⟨g, 0, none⟩)) rfl rfl (HLD.out) ?_; refine stop ?_)
    refine Stop.on ?_
    go_wp2_with fail
    refine (CanH_calls _ _ _ _ _ _ _ HSD.out).mono ?_; rintro e w2 ⟨rfl, hb2⟩
    rw [HC.out]
    have HW2 := hid hb2
    clear hb2
    go_wp2
    go_ret
    exact ⟨rfl, (fun _ => HB2.out.step HW2.out), ((Below.refl g w).setCell (p := ⟨g, 2, none⟩) (Nat.le_refl _) _).trans (HW2.out.mono (by simp; omega))⟩

theorem rngG {l : List UInt8} : (0 ≤ clsG l ∧ clsG l ≤ 255) ∧ (0 ≤ labG l ∧ labG l ≤ 1048575) ∧ (0 ≤ gt l 6 ∧ gt l 6 ≤ 255) ∧ (0 ≤ gt l 7 ∧ gt l 7 ≤ 255) := by
  have a0 := gt_lo l 0; have a1 := gt_lo l 1; have a2 := gt_lo l 2; have a3 := gt_lo l 3; have a6 := gt_lo l 6; have a7 := gt_lo l 7
  have b0 := gt_hi l 0; have b1 := gt_hi l 1; have b2 := gt_hi l 2; have b3 := gt_hi l 3; have b6 := gt_hi l 6; have b7 := gt_hi l 7
  unfold clsG labG
  omega

set_option maxRecDepth 8000 in
set_option maxHeartbeats 1000000 in
theorem Sized_calls (A : Option Addr) (k cp : Nat) (l : List UInt8) (w : World) (h : Bs w A k cp l) (hsz : k ≤ 140737488351232) :
    Calls Try.prog 44 #[.slice A k cp] w fun e w' => ∃ A' n' c', e = .returned (.tuple #[.slice A' n' c', .int .i64 (sizE l)]) ∧ Own w' w.heap.size 5 A' n' c' (sizL l) ∧ Below w.heap.size w w' := by
  have hmf : ∀ (fn : Fn) (first cap : Array Value) (w : World), (Instr.makeFunc fn first cap).run Try.prog w = .ok (.func fn first cap) w := fun _ _ _ _ => rfl
  have hd := Blk.new w 22 [.slice A k cp]
  have hc := hd.cell (j := 0) rfl
  have HD := hid hd
  have hlen := h.len
  have HLEN := hid hlen
  clear hd hlen
  go_enter Try.func44, Try.ntmps44
  go_wp2_with fail
  refine (change_calls 107 #[.pointer (some ⟨w.heap.size, 0, none⟩)] A k cp l (sizR l) (clsG l) (labG l) ((l.length : Int) - 40) (gt l 6) (gt l 7) ((l.drop 8).take 32) _ (h.alloc _) hsz (enters_of Try.func107 (by kernel_rfl) rfl) (fun h _ => sd_len h) (fun he w1 g hb _ hbw => ?_)).mono ?_
  · rw [headG_eq he] at hb
    have h40 := (errG_zero he).1
    have hl := HLEN.out
    have hr := rngG (l := l)
    have := siz_how g w.heap.size A k cp _ _ _ _ _ _ w1 hb (HD.out.step hbw) (sd_len he) (by omega) hsz hr.1 hr.2.1 hr.2.2.1 hr.2.2.2
    rw [hl] at this
    exact this
  · rintro e w' ⟨A', n', c', rfl, ho, hb⟩
    have ho' : Own w' w.heap.size 5 A' n' c' (sizL l) := Own.mono (base := (w.alloc (.cells #[.slice A k cp] 22)).heap.size) ho (by simp)
    have hb' := ((Below.refl w.heap.size w).alloc (Nat.le_refl _) (.cells #[.slice A k cp] 22)).trans (hb.mono (by simp))
    rw [show errC l (sizR l) = sizE l from rfl]
    clear ho hb
    go_wp2
    go_ret2
    exact ⟨_, _, _, rfl, ho', hb'⟩
end Go.Proofs.Ytmenonijbcljdaa
