/- Part Gdr of the proof: laws used by the law of this claim. -/
import Derived.Laws.Runes
import Derived.Lib.Builder
import Derived.Lib.UnsafeStr
import Derived.Shelf.Strings.Builder1
import Derived.Test.YtpoeinajedbfoaaDoorGaf
set_option linter.all false
namespace Go.Proofs.YtpoeinajedbfoaaDoor
open Go Go.Am Go.RowKit Go.Mix Go.Bas
set_option maxRecDepth 100000
def nmL : List UInt8 := [115, 104, 111, 114, 116, 32, 102, 111, 114, 109, 32, 115, 117, 109, 32, 107, 105, 110, 100, 32, 97, 100, 100, 114, 32, 118, 105, 112, 32, 110, 111, 110, 101, 32, 103, 111, 110, 101, 32, 104, 111, 112, 32, 98, 105, 103, 32, 115, 116, 97, 108, 101, 32, 102, 117, 108, 108, 32, 111, 116, 104, 101, 114, 32, 111, 100, 100, 32, 99, 108, 97, 115, 104, 32]
def nmS : ByteArray := ⟨nmL.toArray⟩
def nmF : List UInt8 → List UInt8 → Int → List UInt8
  | [], word, _ => word
  | c :: l, word, r => if c ≠ 32 then nmF l (word ++ [c]) r else if r = 1 then word else nmF l [] (r - 1)
/-- the name of a reason -/
def nmN (r : Int) : List UInt8 := if 0 < r ∧ r < 16 then nmF nmL [] r else []
theorem nm_size : nmS.size = 74 := by kernel_rfl
theorem nm_ascii : ∀ i : Fin 74, (nmL.getD i.val 0).toNat < 128 := by decide +kernel
theorem enc_ascii : ∀ x : Fin 128, (Utf8.encode ((x.val : Nat) : Int)).data.toList = [UInt8.ofNat x.val] := by decide +kernel
theorem enc_byte (x : UInt8) (h : x.toNat < 128) : Utf8.encode ((x.toNat : Nat) : Int) = ⟨#[x]⟩ := by
  have e := enc_ascii ⟨x.toNat, h⟩
  simp only [UInt8.ofNat_toNat] at e
  have : (Utf8.encode ((x.toNat : Nat) : Int)).data = #[x] := by rw [← Array.toList_inj, e]
  cases hq : Utf8.encode ((x.toNat : Nat) : Int) with
  | mk d => rw [hq] at this; simp only at this; rw [this]
theorem push_str (a : List UInt8) (x : UInt8) : (⟨a.toArray⟩ : ByteArray) ++ ⟨#[x]⟩ = ⟨(a ++ [x]).toArray⟩ := by
  apply ByteArray.ext
  simp
set_option maxRecDepth 1000000 in
set_option maxHeartbeats 400000 in
theorem drName_calls (r0 : Int) (w : World) : Calls Tryd.prog 14 #[.int .i64 r0] w fun e w' => e = .returned (.string ⟨(nmN r0).toArray⟩) ∧ Below w.heap.size w w' := by
  go_enter Tryd.func14, Tryd.ntmps14
  go_wp2
  all_goals try (
    go_ret
    refine ⟨by unfold nmN; rw [if_neg (by first | omega | (rename_i h; simp at h; omega))]; rfl, by first | exact Below.refl _ _ | exact bel_drew _ _⟩)
  have hr16 : r0 < 16 := by rename_i h k a; simp at h; omega
  have hr00 : 0 < r0 := by omega
  have e0 : nmN r0 = nmF nmL [] r0 := by unfold nmN; rw [if_pos ⟨hr00, hr16⟩]
  have E0 := hid e0
  clear e0
  obtain ⟨S, hS⟩ : ∃ S : ByteArray, Hid (S = nmS) := ⟨_, hid rfl⟩
  go_loopw [0, 3] (fun u v wr => ∃ (pos : Nat) (word : List UInt8) (r : Int), u = .int .i64 r ∧ v = .string ⟨word.toArray⟩ ∧ wr.heap[w.heap.size]? = some (.stringIter S pos) ∧ Below w.heap.size w wr ∧ Hid (nmF (nmL.drop pos) word r = nmF nmL [] r0) ∧ pos ≤ 74 ∧ 1 ≤ r ∧ r ≤ 16 ∧ word.length ≤ pos) (fun _ _ wr => 74 - wr.iterPos w.heap.size)
  case atStart => exact ⟨0, [], r0, rfl, rfl, by rw [hS.out]; exact World.iter_heap w nmS 0, (Below.refl _ _).alloc (Nat.le_refl _) _, rfl, by omega, by omega, by omega, by simp⟩
  case round =>
    obtain ⟨pos, word, r, rfl, rfl, hit, hbw, HS, hb, hr0, hr1, hwl⟩ := hrel
    have hpos0 := iterPos_of hit
    have hsz : S.size = 74 := by rw [hS.out]; exact nm_size
    by_cases hp : pos < S.size
    · obtain ⟨x, ha, hd, HD⟩ : ∃ x : UInt8, x.toNat < 128 ∧ Utf8.decode S pos = (x.toNat, 1) ∧ Hid (nmL.drop pos = x :: nmL.drop (pos + 1)) := by
        have hq : pos < nmL.length := by rw [hsz] at hp; exact hp
        have hget : S[pos]'hp = nmL.getD pos 0 := by
          rw [List.getD_eq_getElem?_getD, List.getElem?_eq_getElem hq]
          have := hS.out
          subst this
          rfl
        have ha : (S[pos]'hp).toNat < 128 := by rw [hget]; exact nm_ascii ⟨pos, by rw [hsz] at hp; exact hp⟩
        refine ⟨S[pos]'hp, ha, decode_ascii S pos hp ha, hid ?_⟩
        rw [hget, List.drop_eq_getElem_cons hq, List.getD_eq_getElem?_getD, List.getElem?_eq_getElem hq]
        rfl
      have hnx : ∀ ty, (Instr.next (.pointer (some ⟨w.heap.size, 0, none⟩)) true ty).run Tryd.prog wr = _ := fun ty => Lib.run_next_any_at wr w.heap.size S pos ty hit hp
      rw [hd] at hnx
      have hit2 := Lib.iterAt_heap wr w.heap.size S pos (pos + 1) hit
      have hbw2 := Lib.below_iterAt hbw (k := w.heap.size) (Nat.le_refl _) S (pos + 1)
      obtain ⟨W1, hW1⟩ : ∃ W1, W1 = wr.iterAt w.heap.size S (pos + 1) := ⟨_, rfl⟩
      rw [← hW1] at hit2 hbw2
      simp only [← hW1] at hnx
      have hcv : ∀ u : World, (convert 21 9 (.int .i32 ((x.toNat : Nat) : Int))).run Tryd.prog u = .ok (.string ⟨#[x]⟩) u := fun u => by
        rw [run_convert_int_string u _ _ .i32 _ rfl rfl, enc_byte x ha]
      have hp74 : pos < 74 := by omega
      clear hW1 hit hbw hS hd hsz hp
      have hF : Hid (nmF (nmL.drop pos) word r = if x ≠ 32 then nmF (nmL.drop (pos + 1)) (word ++ [x]) r else if r = 1 then word else nmF (nmL.drop (pos + 1)) [] (r - 1)) := hid (by rw [HD.out]; rfl)
      have hXi : x = 32 ↔ x.toNat = 32 := ⟨fun e => by rw [e]; rfl, fun e => UInt8.toNat_inj.mp e⟩
      go_wp2
      · have hx : x.toNat ≠ 32 := by first | omega | (rename_i h; simp at h; omega)
        have hx2 : x ≠ 32 := fun e => hx (hXi.mp e)
        go_roundw
        case rel => exact ⟨pos + 1, word ++ [x], r, rfl, by rw [push_str], hit2, by first | exact hbw2 | exact below_drewN hbw2 _, hid (by rw [← HS.out, hF.out, if_pos hx2]), by omega, by omega, by omega, by simp; omega⟩
        case measure =>
          first
            | (rw [iterPos_of hit2, hpos0]; omega)
            | (rw [iterPos_of (w := W1.drewN _) hit2, hpos0]; omega)
      · have hx : x.toNat = 32 := by first | omega | (rename_i h h2; simp at h; omega)
        have hr : r = 1 := by first | omega | (rename_i h h2; simp at h2; omega)
        go_ret
        refine ⟨?_, by first | exact hbw2 | exact below_drewN hbw2 _⟩
        rw [E0.out, ← HS.out, hF.out, if_neg (fun h => h (hXi.mpr hx)), if_pos hr]
        rfl
      · have hx : x.toNat = 32 := by first | omega | (rename_i h h2; simp at h; omega)
        have hr : ¬ r = 1 := by first | omega | (rename_i h h2; simp at h2; omega)
        go_roundw
        case rel => exact ⟨pos + 1, [], r - 1, rfl, rfl, hit2, by first | exact hbw2 | exact below_drewN hbw2 _, hid (by rw [← HS.out, hF.out, if_neg (fun h => h (hXi.mpr hx)), if_neg hr]), by omega, by omega, by omega, by simp⟩
        case measure =>
          first
            | (rw [iterPos_of hit2, hpos0]; omega)
            | (rw [iterPos_of (w := W1.drewN _) hit2, hpos0]; omega)
    · have hnx : ∀ ty, (Instr.next (.pointer (some ⟨w.heap.size, 0, none⟩)) true ty).run Tryd.prog wr = _ := fun ty => Lib.run_next_end_at wr w.heap.size S pos ty hit hp
      have e1 : nmF nmL [] r0 = word := by rw [← HS.out, List.drop_eq_nil_of_le (by have : nmL.length = 74 := rfl; omega)]; rfl
      go_wp2
      go_ret
      exact ⟨by rw [E0.out, e1]; rfl, by first | exact hbw | exact below_drewN hbw _⟩
def cDrName : List V → Option (V × Bool)
  | [.int .i64 r] => some (.str (nmN r), true)
  | _ => none
theorem drName_con : ∀ vs v, cDrName vs = some (v, true) → SpecV Tryd.prog 14 vs v := by
  intro vs v h; unfold cDrName at h; split at h
  · rename_i r
    injection h with h; injection h with h hb; subst h
    intro O w cs hO hv
    obtain ⟨a, rfl, ha⟩ := hv.one_inv
    obtain ⟨rfl, _⟩ := ha.int_inv
    refine (drName_calls r w).mono ?_
    rintro e w' ⟨rfl, hb⟩
    exact ⟨hb, _, rfl, .val (.one .str rfl)⟩
  · cases h
end Go.Proofs.YtpoeinajedbfoaaDoor

namespace Go.Proofs.YtpoeinajedbfoaaDoor
open Go Go.Am Go.RowKit Go.Mix Go.Bas
set_option maxRecDepth 100000
end Go.Proofs.YtpoeinajedbfoaaDoor

namespace Go.Proofs.YtpoeinajedbfoaaDoor
open Go Go.Am Go.RowKit Go.Mix Go.Bas
set_option maxRecDepth 100000
end Go.Proofs.YtpoeinajedbfoaaDoor
