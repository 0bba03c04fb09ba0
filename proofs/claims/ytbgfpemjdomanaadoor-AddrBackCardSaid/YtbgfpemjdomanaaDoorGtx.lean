/- Part Gtx of the proof: laws used by the law of this claim. -/
import Derived.Shelf.Strings.Builder1
import Derived.Shelf.Strings.Builder2
import Derived.Shelf.Strings.OnBuilder
import Derived.Shelf.Strings.Search1
import Derived.Shelf.Strings.Search2
import Derived.Shelf.Strings.Search3
import Derived.Shelf.Strings.Cut
import Derived.Shelf.Strings.Count
import Derived.Shelf.LaysM
import Derived.Shelf.Strings.Shaped
import Derived.Shelf.Strings.Split
import Derived.Test.YtbgfpemjdomanaaDoorProg
import Derived.Lib.IndexMore
import Derived.Sort.Grow
import Derived.Lib.Split
import Derived.Lib.SplitLaws
import Derived.Lib.ItoaMem
import Derived.WalkKit
import Derived.BigCall
import Derived.BigGuard
import Derived.Test.YtbgfpemjdomanaaDoorGe
import Derived.Test.YtbgfpemjdomanaaDoorGk
import Derived.Test.YtbgfpemjdomanaaDoorGf
set_option linter.all false
namespace Go.Proofs
open Go.Shelf
def Tryd.lays156_ren : Go.Shelf.Ren := ⟨fun | 156 => 31 | 165 => 36 | 166 => 37 | 169 => 38 | 240 => 42 | 241 => 43 | 276 => 51 | 277 => 52 | n => n, fun | 31 => 52 | 9 => 9 | 3 => 3 | 4 => 4 | 0 => 0 | 20 => 20 | 72 => 60 | 76 => 64 | 70 => 58 | 37 => 45 | 75 => 63 | 127 => 70 | 164 => 74 | 5 => 5 | 80 => 66 | n => n, fun | n => n⟩
theorem Tryd.lays156 : Go.Proofs.Lays.n156 Tryd.prog Tryd.lays156_ren := {
  mixed := by kernel_rfl
  f156 := Tryd.func31.trans (congrArg some (by kernel_rfl))
  f165 := Tryd.func36.trans (congrArg some (by kernel_rfl))
  f166 := Tryd.func37.trans (congrArg some (by kernel_rfl))
  f169 := Tryd.func38.trans (congrArg some (by kernel_rfl))
  f240 := Tryd.func42.trans (congrArg some (by kernel_rfl))
  f241 := Tryd.func43.trans (congrArg some (by kernel_rfl))
  f276 := Tryd.func51.trans (congrArg some (by kernel_rfl))
  f277 := Tryd.func52.trans (congrArg some (by kernel_rfl))
  t0 := Tryd.underlying0
  a0 := Tryd.isAgg0
  z0 := Tryd.sizeOf0
  v0 := Tryd.zeroValue0
  t3 := Tryd.underlying3
  a3 := Tryd.isAgg3
  z3 := Tryd.sizeOf3
  v3 := Tryd.zeroValue3
  t4 := Tryd.underlying4
  a4 := Tryd.isAgg4
  z4 := Tryd.sizeOf4
  v4 := Tryd.zeroValue4
  t9 := Tryd.underlying9
  a9 := Tryd.isAgg9
  z9 := Tryd.sizeOf9
  v9 := Tryd.zeroValue9
  t20 := Tryd.underlying20
  a20 := Tryd.isAgg20
  z20 := Tryd.sizeOf20
  v20 := Tryd.zeroValue20
  t31 := Tryd.underlying52
  a31 := Tryd.isAgg52
  z31 := Tryd.sizeOf52
  v31 := Tryd.zeroValue52
  t37 := Tryd.underlying45
  a37 := Tryd.isAgg45
  z37 := Tryd.sizeOf45
  v37 := Tryd.zeroValue45
  t70 := Tryd.underlying58
  a70 := Tryd.isAgg58
  z70 := Tryd.sizeOf58
  v70 := Tryd.zeroValue58
  t72 := Tryd.underlying60
  a72 := Tryd.isAgg60
  z72 := Tryd.sizeOf60
  v72 := Tryd.zeroValue60
  t75 := Tryd.underlying63
  a75 := Tryd.isAgg63
  z75 := Tryd.sizeOf63
  v75 := Tryd.zeroValue63
  t76 := Tryd.underlying64
  a76 := Tryd.isAgg64
  z76 := Tryd.sizeOf64
  v76 := Tryd.zeroValue64
  t127 := Tryd.underlying70
  a127 := Tryd.isAgg70
  z127 := Tryd.sizeOf70
  v127 := Tryd.zeroValue70
  t164 := Tryd.underlying74
  a164 := Tryd.isAgg74
  z164 := Tryd.sizeOf74
  v164 := Tryd.zeroValue74 }
theorem Tryd.Builder_Extra_156 : Builder.Extra Tryd.prog Tryd.lays156_ren := {
  sizeBuilder := by kernel_rfl
  liesBuilder := by kernel_rfl
  t5 := Tryd.underlying5
  a5 := Tryd.isAgg5
  z5 := Tryd.sizeOf5
  v5 := Tryd.zeroValue5
  infoByte := by kernel_rfl
  cellsByte := by kernel_rfl
  sizeByte := by kernel_rfl
  neB5 := by decide }
open Go.RowKit in
theorem Tryd.strings_Join_none (a : Option Addr) (c : Nat) (sep : ByteArray) (w : World) :
    Calls Tryd.prog 31 #[.slice a 0 c, .string sep] w fun e w' => e = .returned (.string ⟨#[]⟩) ∧ w' = w := Any.strings_Join_none Tryd.lays156 Tryd.Builder_Extra_156 a c sep w
open Go.RowKit in
theorem Tryd.strings_Join (bk o c : Nat) (xs : List ByteArray) (sep : ByteArray) (w : World) (hcells : ∀ (j : Nat) x, xs[j]? = some x → w.cell? ⟨bk, o + j, none⟩ = some (.string x)) (hbk : bk < w.heap.size) (hN : xs.length ≤ 140737488355328) (hcap : xs.length ≤ c) (hlen : (Lib.join (xs.map (·.data.toList)) sep.data.toList).length ≤ 140737488355328) :
    Calls Tryd.prog 31 #[.slice (some ⟨bk, o, none⟩) xs.length c, .string sep] w fun e w' => e = .returned (.string ⟨(Lib.join (xs.map (·.data.toList)) sep.data.toList).toArray⟩) ∧ Below w.heap.size w w' := Any.strings_Join Tryd.lays156 Tryd.Builder_Extra_156 bk o c xs sep w hcells hbk hN hcap hlen
def Tryd.lays145_ren : Go.Shelf.Ren := ⟨fun | 145 => 26 | 220 => 32 | 219 => 39 | 217 => 44 | 225 => 45 | 224 => 46 | 267 => 47 | 266 => 53 | 314 => 54 | n => n, fun | 9 => 9 | 4 => 4 | 59 => 47 | 3 => 3 | 5 => 5 | 46 => 44 | 146 => 77 | 51 => 76 | n => n, fun | 1 => 0 | n => n⟩
theorem Tryd.lays145 : Go.Proofs.Lays.n145 Tryd.prog Tryd.lays145_ren := {
  mixed := by kernel_rfl
  f145 := Tryd.func26.trans (congrArg some (by kernel_rfl))
  f217 := Tryd.func44.trans (congrArg some (by kernel_rfl))
  f219 := Tryd.func39.trans (congrArg some (by kernel_rfl))
  f220 := Tryd.func32.trans (congrArg some (by kernel_rfl))
  f224 := Tryd.func46.trans (congrArg some (by kernel_rfl))
  f225 := Tryd.func45.trans (congrArg some (by kernel_rfl))
  f266 := Tryd.func53.trans (congrArg some (by kernel_rfl))
  f267 := Tryd.func47.trans (congrArg some (by kernel_rfl))
  f314 := Tryd.func54.trans (congrArg some (by kernel_rfl))
  t3 := Tryd.underlying3
  a3 := Tryd.isAgg3
  z3 := Tryd.sizeOf3
  v3 := Tryd.zeroValue3
  t4 := Tryd.underlying4
  a4 := Tryd.isAgg4
  z4 := Tryd.sizeOf4
  v4 := Tryd.zeroValue4
  t5 := Tryd.underlying5
  a5 := Tryd.isAgg5
  z5 := Tryd.sizeOf5
  v5 := Tryd.zeroValue5
  t9 := Tryd.underlying9
  a9 := Tryd.isAgg9
  z9 := Tryd.sizeOf9
  v9 := Tryd.zeroValue9
  t46 := Tryd.underlying44
  a46 := Tryd.isAgg44
  z46 := Tryd.sizeOf44
  v46 := Tryd.zeroValue44
  t51 := Tryd.underlying76
  a51 := Tryd.isAgg76
  z51 := Tryd.sizeOf76
  v51 := Tryd.zeroValue76
  t59 := Tryd.underlying47
  a59 := Tryd.isAgg47
  z59 := Tryd.sizeOf47
  v59 := Tryd.zeroValue47
  t146 := Tryd.underlying77
  a146 := Tryd.isAgg77
  z146 := Tryd.sizeOf77
  v146 := Tryd.zeroValue77
  g1 := by kernel_rfl }
open Go.RowKit Go.Lib in
theorem Tryd.strings_Cut (s sep : ByteArray) (m : Int) (w : World) (hs : s.size < 4294967281) (hm : w.cell? ⟨0, 0, none⟩ = some (.int .i64 m)) :
    Calls Tryd.prog 26 #[.string s, .string sep] w fun e w' => e = .returned (.tuple #[.string ⟨(Lib.cut s.data.toList sep.data.toList).1.toArray⟩, .string ⟨(Lib.cut s.data.toList sep.data.toList).2.1.toArray⟩, .bool (Lib.cut s.data.toList sep.data.toList).2.2]) ∧ ∃ n, w' = w.drewN n := Any.strings_Cut Tryd.lays145 s sep m w hs hm
def Tryd.lays146_ren : Go.Shelf.Ren := ⟨fun | 146 => 33 | 221 => 40 | 268 => 48 | 138 => 49 | 143 => 50 | 195 => 55 | 197 => 56 | 218 => 57 | 219 => 39 | 260 => 58 | 217 => 44 | 225 => 45 | 224 => 46 | 267 => 47 | 266 => 53 | 314 => 54 | n => n, fun | 9 => 9 | 31 => 52 | 3 => 3 | 4 => 4 | 0 => 0 | 105 => 80 | 21 => 21 | 5 => 5 | 46 => 44 | 119 => 82 | 139 => 85 | 138 => 84 | 146 => 77 | 51 => 76 | n => n, fun | 1 => 0 | 3 => 1 | 4 => 2 | n => n⟩
theorem Tryd.lays146 : Go.Proofs.Lays.n146 Tryd.prog Tryd.lays146_ren := {
  mixed := by kernel_rfl
  f138 := Tryd.func49.trans (congrArg some (by kernel_rfl))
  f143 := Tryd.func50.trans (congrArg some (by kernel_rfl))
  f146 := Tryd.func33.trans (congrArg some (by kernel_rfl))
  f195 := Tryd.func55.trans (congrArg some (by kernel_rfl))
  f197 := Tryd.func56.trans (congrArg some (by kernel_rfl))
  f217 := Tryd.func44.trans (congrArg some (by kernel_rfl))
  f218 := Tryd.func57.trans (congrArg some (by kernel_rfl))
  f219 := Tryd.func39.trans (congrArg some (by kernel_rfl))
  f221 := Tryd.func40.trans (congrArg some (by kernel_rfl))
  f224 := Tryd.func46.trans (congrArg some (by kernel_rfl))
  f225 := Tryd.func45.trans (congrArg some (by kernel_rfl))
  f260 := Tryd.func58.trans (congrArg some (by kernel_rfl))
  f266 := Tryd.func53.trans (congrArg some (by kernel_rfl))
  f267 := Tryd.func47.trans (congrArg some (by kernel_rfl))
  f268 := Tryd.func48.trans (congrArg some (by kernel_rfl))
  f314 := Tryd.func54.trans (congrArg some (by kernel_rfl))
  t0 := Tryd.underlying0
  a0 := Tryd.isAgg0
  z0 := Tryd.sizeOf0
  v0 := Tryd.zeroValue0
  t3 := Tryd.underlying3
  a3 := Tryd.isAgg3
  z3 := Tryd.sizeOf3
  v3 := Tryd.zeroValue3
  t4 := Tryd.underlying4
  a4 := Tryd.isAgg4
  z4 := Tryd.sizeOf4
  v4 := Tryd.zeroValue4
  t5 := Tryd.underlying5
  a5 := Tryd.isAgg5
  z5 := Tryd.sizeOf5
  v5 := Tryd.zeroValue5
  t9 := Tryd.underlying9
  a9 := Tryd.isAgg9
  z9 := Tryd.sizeOf9
  v9 := Tryd.zeroValue9
  t21 := Tryd.underlying21
  a21 := Tryd.isAgg21
  z21 := Tryd.sizeOf21
  v21 := Tryd.zeroValue21
  t31 := Tryd.underlying52
  a31 := Tryd.isAgg52
  z31 := Tryd.sizeOf52
  v31 := Tryd.zeroValue52
  t46 := Tryd.underlying44
  a46 := Tryd.isAgg44
  z46 := Tryd.sizeOf44
  v46 := Tryd.zeroValue44
  t51 := Tryd.underlying76
  a51 := Tryd.isAgg76
  z51 := Tryd.sizeOf76
  v51 := Tryd.zeroValue76
  t105 := Tryd.underlying80
  a105 := Tryd.isAgg80
  z105 := Tryd.sizeOf80
  v105 := Tryd.zeroValue80
  t119 := Tryd.underlying82
  a119 := Tryd.isAgg82
  z119 := Tryd.sizeOf82
  t138 := Tryd.underlying84
  a138 := Tryd.isAgg84
  z138 := Tryd.sizeOf84
  v138 := Tryd.zeroValue84
  t139 := Tryd.underlying85
  a139 := Tryd.isAgg85
  z139 := Tryd.sizeOf85
  v139 := Tryd.zeroValue85
  t146 := Tryd.underlying77
  a146 := Tryd.isAgg77
  z146 := Tryd.sizeOf77
  v146 := Tryd.zeroValue77
  g1 := by kernel_rfl
  g3 := by kernel_rfl
  g4 := by kernel_rfl }
open Go.RowKit Go.Lib in
theorem Tryd.strings_Split (s sep : ByteArray) (m : Int) (w : World) (hs : s.size < 4294967281) (hm : w.cell? ⟨0, 0, none⟩ = some (.int .i64 m)) (h1 : 1 ≤ sep.size) :
    Calls Tryd.prog 33 #[.string s, .string sep] w fun e w' =>
      e = .returned (.slice (some ⟨w.heap.size, 0, none⟩) (Lib.countB s sep + 1) (Lib.countB s sep + 1)) ∧ w' = w.alloc (.cells ((Lib.splitB sep 0 (Lib.countB s sep) s).map Value.string).toArray 9) := Any.strings_Split Tryd.lays146 (by kernel_rfl) s sep m w hs hm h1
end Go.Proofs

namespace Go.Sort
end Go.Sort
namespace Go.Proofs.YtbgfpemjdomanaaDoor
open Go Go.Am Go.RowKit Go.Mix Go.Bas Go.Sort
theorem bel_drew (w : World) (n : Nat) : Below w.heap.size w (w.drewN n) := ⟨rfl, rfl, rfl, Nat.le_refl _, fun _ _ => rfl⟩
theorem max_of {w : World} (h : LaidW w) : ∃ m, w.cell? ⟨0, 0, none⟩ = some (.int .i64 m) := by
  obtain ⟨o, h1, m, c, T, fz, rfl, h2⟩ := h (0, isInt .i64) (by simp [goods])
  have h1 : w.heap[0]? = some (.cells c T fz) := h1
  exact ⟨m, by simp [World.cell?, h1, h2]⟩
/-- a text cut at another one -/
def cut1 (s t : List UInt8) : List UInt8 := (Lib.cut s t).1
def cut2 (s t : List UInt8) : List UInt8 := (Lib.cut s t).2.1
def cut3 (s t : List UInt8) : Bool := (Lib.cut s t).2.2
def cStrCut : List V → Option (V × Bool)
  | [.str s, .str t] => some (.tup [.str (cut1 s t), .str (cut2 s t), .bool (cut3 s t)], decide (s.length < 4294967281))
  | _ => none
theorem xCut_con : ∀ vs v, cStrCut vs = some (v, true) → SpecV Tryd.prog 26 vs v := by
  intro vs v h; unfold cStrCut at h; split at h
  · rename_i s t
    injection h with h; injection h with h hb; subst h
    intro O w cs hO hv
    obtain ⟨a, b, rfl, ha, hb'⟩ := hv.two_inv
    obtain rfl := ha.str_inv
    obtain rfl := hb'.str_inv
    obtain ⟨m, hm⟩ := max_of hO.good
    refine (Tryd.strings_Cut ⟨s.toArray⟩ ⟨t.toArray⟩ m w (by simpa [ByteArray.size] using of_decide_eq_true hb) hm).mono ?_
    rintro e w' ⟨rfl, n, rfl⟩
    exact ⟨bel_drew _ n, _, rfl, .val (.tup (.cons (.one .str rfl) (.cons (.one .str rfl) (.cons (.one .bool rfl) .nil))))⟩
  · cases h
/-- the pieces of a text -/
def pieces (s t : List UInt8) : List V := (Lib.splitB ⟨t.toArray⟩ 0 (Lib.countB ⟨s.toArray⟩ ⟨t.toArray⟩) ⟨s.toArray⟩).map fun b => V.str b.data.toList
theorem splitB_len (t : ByteArray) (h : 1 ≤ t.size) (s : ByteArray) : (Lib.splitB t 0 (Lib.countB s t) s).length = Lib.countB s t + 1 := Lib.splitB_all t h 0 _ s rfl
theorem strs_rep {ι : Nat → Option Cn} {O : Nat → Prop} {w : World} : ∀ l : List ByteArray, CReps ι O w (l.map fun b => V.str b.data.toList) (l.map Value.string)
  | [] => .nil
  | b :: l => by
    have := CReps.cons (CRep.str (l := b.data.toList)) (strs_rep (ι := ι) (O := O) (w := w) l)
    exact this
def cStrSplit : List V → Option (V × Bool)
  | [.str s, .str t] => some (.ownv 9 (.rows .str (pieces s t)), decide (s.length < 4294967281 ∧ 1 ≤ t.length))
  | _ => none
theorem xSplit_con : ∀ vs v, cStrSplit vs = some (v, true) → SpecV Tryd.prog 33 vs v := by
  intro vs v h; unfold cStrSplit at h; split at h
  · rename_i s t
    injection h with h; injection h with h hb; subst h
    obtain ⟨h1, h2⟩ := of_decide_eq_true hb
    intro O w cs hO hv
    obtain ⟨a, b, rfl, ha, hb'⟩ := hv.two_inv
    obtain rfl := ha.str_inv
    obtain rfl := hb'.str_inv
    obtain ⟨m, hm⟩ := max_of hO.good
    have ht : 1 ≤ (⟨t.toArray⟩ : ByteArray).size := by simpa [ByteArray.size] using h2
    refine (Tryd.strings_Split ⟨s.toArray⟩ ⟨t.toArray⟩ m w (by simpa [ByteArray.size] using h1) hm ht).mono ?_
    rintro e w' ⟨rfl, rfl⟩
    have hl := splitB_len ⟨t.toArray⟩ ht ⟨s.toArray⟩
    have hc : Lib.countB ⟨s.toArray⟩ ⟨t.toArray⟩ ≤ 4294967281 := by
      have := Lib.countB_le ⟨t.toArray⟩ ht _ ⟨s.toArray⟩ (Nat.le_refl _)
      have e : (⟨s.toArray⟩ : ByteArray).size = s.length := by simp [ByteArray.size]
      omega
    have hp : (pieces s t).length = Lib.countB ⟨s.toArray⟩ ⟨t.toArray⟩ + 1 := by unfold pieces; rw [List.length_map, hl]
    refine ⟨(Below.refl _ _).alloc (Nat.le_refl _) _, _, rfl, ?_⟩
    refine .own (ds := (Lib.splitB ⟨t.toArray⟩ 0 (Lib.countB ⟨s.toArray⟩ ⟨t.toArray⟩) ⟨s.toArray⟩).map Value.string) ?_ ?_
    · have := RowC.rows (ι := no) (O := fun b => O b ∨ some w.heap.size = some b) (w := w.alloc (.cells ((Lib.splitB ⟨t.toArray⟩ 0 (Lib.countB ⟨s.toArray⟩ ⟨t.toArray⟩) ⟨s.toArray⟩).map Value.string).toArray 9)) (e := .str) (l := pieces s t) (by
        intro x hx
        unfold pieces at hx
        obtain ⟨b, _, rfl⟩ := List.mem_map.1 hx
        rfl) (strs_rep _)
      rw [hp] at this
      exact this
    · refine ⟨by simp [hl, elSh, Sh.size], .inr ⟨w.heap.size, _, ((Lib.splitB ⟨t.toArray⟩ 0 (Lib.countB ⟨s.toArray⟩ ⟨t.toArray⟩) ⟨s.toArray⟩).map Value.string).toArray, rfl, Nat.le_refl _, by show (w.heap.push _)[w.heap.size]? = _; simp, Nat.le_refl _, by unfold maxLen; omega, by simp [hl, elSh, Sh.size], ?_⟩⟩
      rw [List.take_of_length_le (by simp [hl, elSh, Sh.size])]
  · cases h
/-- texts with another one between -/
def joinV (l : List V) (s : List UInt8) : List UInt8 := Lib.join (l.map toS) s
theorem strs_cells {ι : Nat → Option Cn} {O : Nat → Prop} {w : World} : ∀ {l : List V} {ds : List Value}, (∀ x ∈ l, isR .str x = true) → CReps ι O w l ds → ds = l.map fun v => Value.string ⟨(toS v).toArray⟩
  | [], ds, _, h => by cases h; rfl
  | v :: l, ds, hl, h => by
    cases h with
    | cons a b =>
      have hv := hl v (List.mem_cons_self ..)
      rw [strs_cells (fun x hx => hl x (List.mem_cons_of_mem _ hx)) b]
      cases v <;> simp [isR] at hv
      cases a
      rfl
def cStrJoin : List V → Option (V × Bool)
  | [.rows (.str) l, .str s] => some (.str (joinV l s), decide (l.length ≤ 140737488355328 ∧ (joinV l s).length ≤ 140737488355328))
  | _ => none
theorem xJoin_con : ∀ vs v, cStrJoin vs = some (v, true) → SpecV Tryd.prog 31 vs v := by
  intro vs v h; unfold cStrJoin at h; split at h
  · rename_i l s
    injection h with h; injection h with h hb; subst h
    obtain ⟨h1, h2⟩ := of_decide_eq_true hb
    intro O w cs hO hv
    obtain ⟨a, b, rfl, ha, hb'⟩ := hv.two_inv
    obtain rfl := hb'.str_inv
    cases ha with
    | agg _ hq => cases hq
    | one ha _ =>
      cases ha with
      | rows hn hc hm he hr hd =>
        rename_i A n c ds
        subst hn
        have hds := strs_cells he hr
        by_cases h0 : l = []
        · subst h0
          refine (Tryd.strings_Join_none A c ⟨s.toArray⟩ w).mono ?_
          rintro e w' ⟨rfl, rfl⟩
          exact ⟨Below.refl _ _, _, rfl, .val (.one (.str (l := [])) rfl)⟩
        · obtain ⟨b, off, rfl, hO', hb, hcell⟩ := hd h0
          have hmap : (l.map (fun v => (⟨(toS v).toArray⟩ : ByteArray))).map (·.data.toList) = l.map toS := by simp
          have hlen : (l.map (fun v => (⟨(toS v).toArray⟩ : ByteArray))).length = l.length := by simp
          have := Tryd.strings_Join b off c (l.map (fun v => (⟨(toS v).toArray⟩ : ByteArray))) ⟨s.toArray⟩ w (by
            intro j x hj
            refine hcell j _ ?_
            rw [hds]
            simp only [List.getElem?_map, Option.map_eq_some_iff] at hj ⊢
            obtain ⟨v, hv, rfl⟩ := hj
            exact ⟨v, hv, rfl⟩) hb (by rw [hlen]; exact h1) (by rw [hlen]; exact hc) (by rw [hmap]; exact h2)
          rw [hmap, hlen] at this
          refine this.mono ?_
          rintro e w' ⟨rfl, hbl⟩
          exact ⟨hbl, _, rfl, .val (.one .str rfl)⟩
  · cases h
def cTru : List V → Option (V × Bool)
  | [] => some (.bool true, true)
  | _ => none
end Go.Proofs.YtbgfpemjdomanaaDoor

namespace Go.Sort
end Go.Sort
namespace Go.Proofs.YtbgfpemjdomanaaDoor
open Go Go.RowKit Go.Sort Go.Lib
end Go.Proofs.YtbgfpemjdomanaaDoor
namespace Go.Proofs.YtbgfpemjdomanaaDoor
open Go Go.Am Go.RowKit Go.Mix Go.Bas Go.Sort
/-! ### the digits of the document -/
end Go.Proofs.YtbgfpemjdomanaaDoor
