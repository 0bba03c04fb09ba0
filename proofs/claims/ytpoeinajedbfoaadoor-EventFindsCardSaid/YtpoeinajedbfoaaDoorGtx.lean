/- Part Gtx of the proof: laws used by the law of this claim. -/
import Derived.Shelf.Strings.Builder1
import Derived.Shelf.Strings.Builder2
import Derived.Shelf.Strings.OnBuilder
import Derived.Shelf.Small.Bits
import Derived.Shelf.Strconv.Itoa0
import Derived.Shelf.Strconv.Itoa1
import Derived.Shelf.LaysM
import Derived.Shelf.Strconv.Itoa2
import Derived.Shelf.Strconv.Itoa3
import Derived.Shelf.Strings.Search1
import Derived.Shelf.Strings.Search2
import Derived.Shelf.Strings.Search3
import Derived.Shelf.Strings.Count
import Derived.Shelf.Strings.Shaped
import Derived.Shelf.Strings.Split
import Derived.Test.YtpoeinajedbfoaaDoorProg
import Derived.Lib.IndexMore
import Derived.Sort.Grow
import Derived.Lib.Split
import Derived.Lib.SplitLaws
import Derived.Lib.ItoaMem
import Derived.WalkKit
import Derived.BigCall
import Derived.BigGuard
import Derived.Test.YtpoeinajedbfoaaDoorGe
import Derived.Test.YtpoeinajedbfoaaDoorGk
import Derived.Test.YtpoeinajedbfoaaDoorGf
set_option linter.all false
namespace Go.Proofs
open Go.Shelf
def Tryd.lays156_ren : Go.Shelf.Ren := ⟨fun | 156 => 106 | 165 => 119 | 166 => 46 | 169 => 34 | 240 => 61 | 241 => 123 | 276 => 73 | 277 => 124 | n => n, fun | 31 => 75 | 9 => 9 | 3 => 3 | 4 => 4 | 0 => 0 | 20 => 20 | 72 => 63 | 76 => 73 | 70 => 60 | 37 => 61 | 75 => 72 | 127 => 86 | 164 => 100 | 5 => 5 | 80 => 30 | n => n, fun | n => n⟩
theorem Tryd.lays156 : Go.Proofs.Lays.n156 Tryd.prog Tryd.lays156_ren := {
  mixed := by kernel_rfl
  f156 := Tryd.func106.trans (congrArg some (by kernel_rfl))
  f165 := Tryd.func119.trans (congrArg some (by kernel_rfl))
  f166 := Tryd.func46.trans (congrArg some (by kernel_rfl))
  f169 := Tryd.func34.trans (congrArg some (by kernel_rfl))
  f240 := Tryd.func61.trans (congrArg some (by kernel_rfl))
  f241 := Tryd.func123.trans (congrArg some (by kernel_rfl))
  f276 := Tryd.func73.trans (congrArg some (by kernel_rfl))
  f277 := Tryd.func124.trans (congrArg some (by kernel_rfl))
  t0 := Tryd.underlying0
  a0 := Tryd.isAgg0
  z0 := Tryd.sizeOf0
  v0 := Tryd.zeroValue0
  t3 := Tryd.underlying3
  a3 := Tryd.isAgg3
  z3 := Tryd.sizeOf3
  v3 := Tryd.zeroValue3
  t4 := Tryd.underlying4
  a4 := Tryd.isAgg4
  z4 := Tryd.sizeOf4
  v4 := Tryd.zeroValue4
  t9 := Tryd.underlying9
  a9 := Tryd.isAgg9
  z9 := Tryd.sizeOf9
  v9 := Tryd.zeroValue9
  t20 := Tryd.underlying20
  a20 := Tryd.isAgg20
  z20 := Tryd.sizeOf20
  v20 := Tryd.zeroValue20
  t31 := Tryd.underlying75
  a31 := Tryd.isAgg75
  z31 := Tryd.sizeOf75
  v31 := Tryd.zeroValue75
  t37 := Tryd.underlying61
  a37 := Tryd.isAgg61
  z37 := Tryd.sizeOf61
  v37 := Tryd.zeroValue61
  t70 := Tryd.underlying60
  a70 := Tryd.isAgg60
  z70 := Tryd.sizeOf60
  v70 := Tryd.zeroValue60
  t72 := Tryd.underlying63
  a72 := Tryd.isAgg63
  z72 := Tryd.sizeOf63
  v72 := Tryd.zeroValue63
  t75 := Tryd.underlying72
  a75 := Tryd.isAgg72
  z75 := Tryd.sizeOf72
  v75 := Tryd.zeroValue72
  t76 := Tryd.underlying73
  a76 := Tryd.isAgg73
  z76 := Tryd.sizeOf73
  v76 := Tryd.zeroValue73
  t127 := Tryd.underlying86
  a127 := Tryd.isAgg86
  z127 := Tryd.sizeOf86
  v127 := Tryd.zeroValue86
  t164 := Tryd.underlying100
  a164 := Tryd.isAgg100
  z164 := Tryd.sizeOf100
  v164 := Tryd.zeroValue100 }
theorem Tryd.Builder_Extra_156 : Builder.Extra Tryd.prog Tryd.lays156_ren := {
  sizeBuilder := by kernel_rfl
  liesBuilder := by kernel_rfl
  t5 := Tryd.underlying5
  a5 := Tryd.isAgg5
  z5 := Tryd.sizeOf5
  v5 := Tryd.zeroValue5
  infoByte := by kernel_rfl
  cellsByte := by kernel_rfl
  sizeByte := by kernel_rfl
  neB5 := by decide }
open Go.RowKit in
theorem Tryd.strings_Join_none (a : Option Addr) (c : Nat) (sep : ByteArray) (w : World) :
    Calls Tryd.prog 106 #[.slice a 0 c, .string sep] w fun e w' => e = .returned (.string ⟨#[]⟩) ∧ w' = w := Any.strings_Join_none Tryd.lays156 Tryd.Builder_Extra_156 a c sep w
open Go.RowKit in
theorem Tryd.strings_Join (bk o c : Nat) (xs : List ByteArray) (sep : ByteArray) (w : World) (hcells : ∀ (j : Nat) x, xs[j]? = some x → w.cell? ⟨bk, o + j, none⟩ = some (.string x)) (hbk : bk < w.heap.size) (hN : xs.length ≤ 140737488355328) (hcap : xs.length ≤ c) (hlen : (Lib.join (xs.map (·.data.toList)) sep.data.toList).length ≤ 140737488355328) :
    Calls Tryd.prog 106 #[.slice (some ⟨bk, o, none⟩) xs.length c, .string sep] w fun e w' => e = .returned (.string ⟨(Lib.join (xs.map (·.data.toList)) sep.data.toList).toArray⟩) ∧ Below w.heap.size w w' := Any.strings_Join Tryd.lays156 Tryd.Builder_Extra_156 bk o c xs sep w hcells hbk hN hcap hlen
def Tryd.laysM171_ren : Go.Shelf.Ren := ⟨fun | 171 => 38 | 243 => 58 | 246 => 68 | 283 => 80 | 284 => 81 | 285 => 82 | 286 => 83 | 129 => 100 | 317 => 101 | 318 => 102 | 319 => 103 | 320 => 104 | 337 => 117 | 338 => 118 | n => n, fun | 3 => 3 | 9 => 9 | 2 => 2 | 4 => 4 | 171 => 109 | 0 => 0 | 53 => 88 | 37 => 61 | 5 => 5 | 173 => 112 | 212 => 132 | 51 => 130 | 20 => 20 | 213 => 133 | 46 => 108 | 232 => 150 | 233 => 151 | n => n, fun | 17 => 0 | 18 => 4 | 19 => 5 | n => n⟩
theorem Tryd.laysM171 : Go.Proofs.LaysM.n171 Tryd.prog Tryd.laysM171_ren := {
  mixed := by kernel_rfl
  f129 := Tryd.func100.trans (congrArg some (by kernel_rfl))
  f171 := Tryd.func38.trans (congrArg some (by kernel_rfl))
  f243 := Tryd.func58.trans (congrArg some (by kernel_rfl))
  f246 := Tryd.func68.trans (congrArg some (by kernel_rfl))
  f283 := Tryd.func80.trans (congrArg some (by kernel_rfl))
  f284 := Tryd.func81.trans (congrArg some (by kernel_rfl))
  f285 := Tryd.func82.trans (congrArg some (by kernel_rfl))
  f286 := Tryd.func83.trans (congrArg some (by kernel_rfl))
  f317 := Tryd.func101.trans (congrArg some (by kernel_rfl))
  f318 := Tryd.func102.trans (congrArg some (by kernel_rfl))
  f319 := Tryd.func103.trans (congrArg some (by kernel_rfl))
  f320 := Tryd.func104.trans (congrArg some (by kernel_rfl))
  f337 := Tryd.func117.trans (congrArg some (by kernel_rfl))
  f338 := Tryd.func118.trans (congrArg some (by kernel_rfl))
  t0 := Tryd.underlying0
  a0 := Tryd.isAgg0
  z0 := Tryd.sizeOf0
  v0 := Tryd.zeroValue0
  t2 := Tryd.underlying2
  a2 := Tryd.isAgg2
  z2 := Tryd.sizeOf2
  v2 := Tryd.zeroValue2
  t3 := Tryd.underlying3
  a3 := Tryd.isAgg3
  z3 := Tryd.sizeOf3
  v3 := Tryd.zeroValue3
  t4 := Tryd.underlying4
  a4 := Tryd.isAgg4
  z4 := Tryd.sizeOf4
  v4 := Tryd.zeroValue4
  t5 := Tryd.underlying5
  a5 := Tryd.isAgg5
  z5 := Tryd.sizeOf5
  v5 := Tryd.zeroValue5
  t9 := Tryd.underlying9
  a9 := Tryd.isAgg9
  z9 := Tryd.sizeOf9
  v9 := Tryd.zeroValue9
  t20 := Tryd.underlying20
  a20 := Tryd.isAgg20
  z20 := Tryd.sizeOf20
  v20 := Tryd.zeroValue20
  t37 := Tryd.underlying61
  a37 := Tryd.isAgg61
  z37 := Tryd.sizeOf61
  v37 := Tryd.zeroValue61
  t46 := Tryd.underlying108
  a46 := Tryd.isAgg108
  z46 := Tryd.sizeOf108
  v46 := Tryd.zeroValue108
  t51 := Tryd.underlying130
  a51 := Tryd.isAgg130
  z51 := Tryd.sizeOf130
  v51 := Tryd.zeroValue130
  t53 := Tryd.underlying88
  a53 := Tryd.isAgg88
  z53 := Tryd.sizeOf88
  v53 := Tryd.zeroValue88
  t171 := Tryd.underlying109
  a171 := Tryd.isAgg109
  z171 := Tryd.sizeOf109
  v171 := Tryd.zeroValue109
  t173 := Tryd.underlying112
  a173 := Tryd.isAgg112
  z173 := Tryd.sizeOf112
  v173 := Tryd.zeroValue112
  t212 := Tryd.underlying132
  a212 := Tryd.isAgg132
  z212 := Tryd.sizeOf132
  v212 := Tryd.zeroValue132
  t213 := Tryd.underlying133
  a213 := Tryd.isAgg133
  z213 := Tryd.sizeOf133
  t232 := Tryd.underlying150
  a232 := Tryd.isAgg150
  z232 := Tryd.sizeOf150
  v232 := Tryd.zeroValue150
  t233 := Tryd.underlying151
  a233 := Tryd.isAgg151
  z233 := Tryd.sizeOf151
  v233 := Tryd.zeroValue151
  g17 := by kernel_rfl
  g18 := by kernel_rfl
  g19 := by kernel_rfl
  i0 := by kernel_rfl
  i2 := by kernel_rfl
  i3 := by kernel_rfl
  i4 := by kernel_rfl
  i5 := by kernel_rfl
  i9 := by kernel_rfl
  i20 := by kernel_rfl
  i37 := by kernel_rfl
  i46 := by kernel_rfl
  i51 := by kernel_rfl
  i53 := by kernel_rfl
  i171 := by kernel_rfl
  i173 := by kernel_rfl
  i212 := by kernel_rfl
  i232 := by kernel_rfl
  i233 := by kernel_rfl
  m17 := by kernel_rfl
  m18 := by kernel_rfl
  m19 := by kernel_rfl }
open Go.RowKit Go.Sort Go.Lib in
theorem Tryd.strconv_Itoa (n : Int) (h0 : -9223372036854775808 ≤ n) (h1 : n ≤ 9223372036854775807) (w : World) (htab : Lib.TabIs Tryd.prog w "internal/strconv.uint64pow10" .u64 Lib.pow10Tab) :
    Calls Tryd.prog 38 #[.int .i64 n] w fun e w' => e = .returned (.string ⟨(Lib.itoa n).toArray⟩) ∧ ∃ k os, w' = grow (w.drewN k) os := Any.strconv_Itoa Tryd.laysM171 n h0 h1 w htab
def Tryd.lays146_ren : Go.Shelf.Ren := ⟨fun | 146 => 47 | 221 => 62 | 268 => 74 | 138 => 75 | 143 => 76 | 195 => 87 | 197 => 88 | 218 => 89 | 219 => 90 | 260 => 107 | 217 => 108 | 225 => 109 | 224 => 110 | 267 => 111 | 266 => 120 | 314 => 121 | n => n, fun | 9 => 9 | 31 => 75 | 3 => 3 | 4 => 4 | 0 => 0 | 105 => 118 | 21 => 21 | 5 => 5 | 46 => 108 | 119 => 142 | 139 => 145 | 138 => 144 | 146 => 146 | 51 => 130 | n => n, fun | 1 => 1 | 3 => 2 | 4 => 3 | n => n⟩
theorem Tryd.lays146 : Go.Proofs.Lays.n146 Tryd.prog Tryd.lays146_ren := {
  mixed := by kernel_rfl
  f138 := Tryd.func75.trans (congrArg some (by kernel_rfl))
  f143 := Tryd.func76.trans (congrArg some (by kernel_rfl))
  f146 := Tryd.func47.trans (congrArg some (by kernel_rfl))
  f195 := Tryd.func87.trans (congrArg some (by kernel_rfl))
  f197 := Tryd.func88.trans (congrArg some (by kernel_rfl))
  f217 := Tryd.func108.trans (congrArg some (by kernel_rfl))
  f218 := Tryd.func89.trans (congrArg some (by kernel_rfl))
  f219 := Tryd.func90.trans (congrArg some (by kernel_rfl))
  f221 := Tryd.func62.trans (congrArg some (by kernel_rfl))
  f224 := Tryd.func110.trans (congrArg some (by kernel_rfl))
  f225 := Tryd.func109.trans (congrArg some (by kernel_rfl))
  f260 := Tryd.func107.trans (congrArg some (by kernel_rfl))
  f266 := Tryd.func120.trans (congrArg some (by kernel_rfl))
  f267 := Tryd.func111.trans (congrArg some (by kernel_rfl))
  f268 := Tryd.func74.trans (congrArg some (by kernel_rfl))
  f314 := Tryd.func121.trans (congrArg some (by kernel_rfl))
  t0 := Tryd.underlying0
  a0 := Tryd.isAgg0
  z0 := Tryd.sizeOf0
  v0 := Tryd.zeroValue0
  t3 := Tryd.underlying3
  a3 := Tryd.isAgg3
  z3 := Tryd.sizeOf3
  v3 := Tryd.zeroValue3
  t4 := Tryd.underlying4
  a4 := Tryd.isAgg4
  z4 := Tryd.sizeOf4
  v4 := Tryd.zeroValue4
  t5 := Tryd.underlying5
  a5 := Tryd.isAgg5
  z5 := Tryd.sizeOf5
  v5 := Tryd.zeroValue5
  t9 := Tryd.underlying9
  a9 := Tryd.isAgg9
  z9 := Tryd.sizeOf9
  v9 := Tryd.zeroValue9
  t21 := Tryd.underlying21
  a21 := Tryd.isAgg21
  z21 := Tryd.sizeOf21
  v21 := Tryd.zeroValue21
  t31 := Tryd.underlying75
  a31 := Tryd.isAgg75
  z31 := Tryd.sizeOf75
  v31 := Tryd.zeroValue75
  t46 := Tryd.underlying108
  a46 := Tryd.isAgg108
  z46 := Tryd.sizeOf108
  v46 := Tryd.zeroValue108
  t51 := Tryd.underlying130
  a51 := Tryd.isAgg130
  z51 := Tryd.sizeOf130
  v51 := Tryd.zeroValue130
  t105 := Tryd.underlying118
  a105 := Tryd.isAgg118
  z105 := Tryd.sizeOf118
  v105 := Tryd.zeroValue118
  t119 := Tryd.underlying142
  a119 := Tryd.isAgg142
  z119 := Tryd.sizeOf142
  t138 := Tryd.underlying144
  a138 := Tryd.isAgg144
  z138 := Tryd.sizeOf144
  v138 := Tryd.zeroValue144
  t139 := Tryd.underlying145
  a139 := Tryd.isAgg145
  z139 := Tryd.sizeOf145
  v139 := Tryd.zeroValue145
  t146 := Tryd.underlying146
  a146 := Tryd.isAgg146
  z146 := Tryd.sizeOf146
  v146 := Tryd.zeroValue146
  g1 := by kernel_rfl
  g3 := by kernel_rfl
  g4 := by kernel_rfl }
open Go.RowKit Go.Lib in
theorem Tryd.strings_Split (s sep : ByteArray) (m : Int) (w : World) (hs : s.size < 4294967281) (hm : w.cell? ⟨1, 0, none⟩ = some (.int .i64 m)) (h1 : 1 ≤ sep.size) :
    Calls Tryd.prog 47 #[.string s, .string sep] w fun e w' =>
      e = .returned (.slice (some ⟨w.heap.size, 0, none⟩) (Lib.countB s sep + 1) (Lib.countB s sep + 1)) ∧ w' = w.alloc (.cells ((Lib.splitB sep 0 (Lib.countB s sep) s).map Value.string).toArray 9) := Any.strings_Split Tryd.lays146 (by kernel_rfl) s sep m w hs hm h1
end Go.Proofs

namespace Go.Sort
end Go.Sort
namespace Go.Proofs.YtpoeinajedbfoaaDoor
open Go Go.Am Go.RowKit Go.Mix Go.Bas Go.Sort
theorem bel_grow (w : World) (k : Nat) (os : Array Obj) : Below w.heap.size w (grow (w.drewN k) os) :=
  ⟨rfl, rfl, rfl, by show w.heap.size ≤ (w.heap ++ os).size; simp, fun i hi => by show (w.heap ++ os)[i]? = w.heap[i]?; rw [Array.getElem?_append_left hi]⟩
theorem bel_drew (w : World) (n : Nat) : Below w.heap.size w (w.drewN n) := ⟨rfl, rfl, rfl, Nat.le_refl _, fun _ _ => rfl⟩
theorem tab_of {w : World} (h : LaidW w) : Lib.TabIs Tryd.prog w "internal/strconv.uint64pow10" .u64 Lib.pow10Tab := by
  obtain ⟨o, h1, T, fz, rfl⟩ := h (0, isTab .u64 Lib.pow10Tab) (by simp [goods])
  unfold Lib.TabIs World.var?
  rw [show Tryd.prog.globalNamed "internal/strconv.uint64pow10" = some 0 by kernel_rfl]
  have h1 : w.heap[0]? = some (.cells (vCells .u64 Lib.pow10Tab) T fz) := h1
  simp only [Option.bind_some, h1]
  rfl
def cItoa : List V → Option (V × Bool)
  | [.int .i64 n] => some (.str (Lib.itoa n), decide (-9223372036854775808 ≤ n ∧ n ≤ 9223372036854775807))
  | _ => none
theorem xItoa_con : ∀ vs v, cItoa vs = some (v, true) → SpecV Tryd.prog 38 vs v := by
  intro vs v h; unfold cItoa at h; split at h
  · rename_i n
    injection h with h; injection h with h hb; subst h
    obtain ⟨h0, h1⟩ := of_decide_eq_true hb
    intro O w cs hO hv
    obtain ⟨a, rfl, ha⟩ := hv.one_inv
    obtain ⟨rfl, _⟩ := ha.int_inv
    refine (Tryd.strconv_Itoa n h0 h1 w (tab_of hO.good)).mono ?_
    rintro e w' ⟨rfl, k, os, rfl⟩
    exact ⟨bel_grow w k os, _, rfl, .val (.one .str rfl)⟩
  · cases h
theorem max_of {w : World} (h : LaidW w) : ∃ m, w.cell? ⟨1, 0, none⟩ = some (.int .i64 m) := by
  obtain ⟨o, h1, m, c, T, fz, rfl, h2⟩ := h (1, isInt .i64) (by simp [goods])
  have h1 : w.heap[1]? = some (.cells c T fz) := h1
  exact ⟨m, by simp [World.cell?, h1, h2]⟩
/-- the pieces of a text -/
def pieces (s t : List UInt8) : List V := (Lib.splitB ⟨t.toArray⟩ 0 (Lib.countB ⟨s.toArray⟩ ⟨t.toArray⟩) ⟨s.toArray⟩).map fun b => V.str b.data.toList
theorem splitB_len (t : ByteArray) (h : 1 ≤ t.size) (s : ByteArray) : (Lib.splitB t 0 (Lib.countB s t) s).length = Lib.countB s t + 1 := Lib.splitB_all t h 0 _ s rfl
theorem strs_rep {ι : Nat → Option Cn} {O : Nat → Prop} {w : World} : ∀ l : List ByteArray, CReps ι O w (l.map fun b => V.str b.data.toList) (l.map Value.string)
  | [] => .nil
  | b :: l => by
    have := CReps.cons (CRep.str (l := b.data.toList)) (strs_rep (ι := ι) (O := O) (w := w) l)
    exact this
def cStrSplit : List V → Option (V × Bool)
  | [.str s, .str t] => some (.ownv 9 (.rows .str (pieces s t)), decide (s.length < 4294967281 ∧ 1 ≤ t.length))
  | _ => none
theorem xSplit_con : ∀ vs v, cStrSplit vs = some (v, true) → SpecV Tryd.prog 47 vs v := by
  intro vs v h; unfold cStrSplit at h; split at h
  · rename_i s t
    injection h with h; injection h with h hb; subst h
    obtain ⟨h1, h2⟩ := of_decide_eq_true hb
    intro O w cs hO hv
    obtain ⟨a, b, rfl, ha, hb'⟩ := hv.two_inv
    obtain rfl := ha.str_inv
    obtain rfl := hb'.str_inv
    obtain ⟨m, hm⟩ := max_of hO.good
    have ht : 1 ≤ (⟨t.toArray⟩ : ByteArray).size := by simpa [ByteArray.size] using h2
    refine (Tryd.strings_Split ⟨s.toArray⟩ ⟨t.toArray⟩ m w (by simpa [ByteArray.size] using h1) hm ht).mono ?_
    rintro e w' ⟨rfl, rfl⟩
    have hl := splitB_len ⟨t.toArray⟩ ht ⟨s.toArray⟩
    have hc : Lib.countB ⟨s.toArray⟩ ⟨t.toArray⟩ ≤ 4294967281 := by
      have := Lib.countB_le ⟨t.toArray⟩ ht _ ⟨s.toArray⟩ (Nat.le_refl _)
      have e : (⟨s.toArray⟩ : ByteArray).size = s.length := by simp [ByteArray.size]
      omega
    have hp : (pieces s t).length = Lib.countB ⟨s.toArray⟩ ⟨t.toArray⟩ + 1 := by unfold pieces; rw [List.length_map, hl]
    refine ⟨(Below.refl _ _).alloc (Nat.le_refl _) _, _, rfl, ?_⟩
    refine .own (ds := (Lib.splitB ⟨t.toArray⟩ 0 (Lib.countB ⟨s.toArray⟩ ⟨t.toArray⟩) ⟨s.toArray⟩).map Value.string) ?_ ?_
    · have := RowC.rows (ι := no) (O := fun b => O b ∨ some w.heap.size = some b) (w := w.alloc (.cells ((Lib.splitB ⟨t.toArray⟩ 0 (Lib.countB ⟨s.toArray⟩ ⟨t.toArray⟩) ⟨s.toArray⟩).map Value.string).toArray 9)) (e := .str) (l := pieces s t) (by
        intro x hx
        unfold pieces at hx
        obtain ⟨b, _, rfl⟩ := List.mem_map.1 hx
        rfl) (strs_rep _)
      rw [hp] at this
      exact this
    · refine ⟨by simp [hl, elSh, Sh.size], .inr ⟨w.heap.size, _, ((Lib.splitB ⟨t.toArray⟩ 0 (Lib.countB ⟨s.toArray⟩ ⟨t.toArray⟩) ⟨s.toArray⟩).map Value.string).toArray, rfl, Nat.le_refl _, by show (w.heap.push _)[w.heap.size]? = _; simp, Nat.le_refl _, by unfold maxLen; omega, by simp [hl, elSh, Sh.size], ?_⟩⟩
      rw [List.take_of_length_le (by simp [hl, elSh, Sh.size])]
  · cases h
/-- texts with another one between -/
def joinV (l : List V) (s : List UInt8) : List UInt8 := Lib.join (l.map toS) s
theorem strs_cells {ι : Nat → Option Cn} {O : Nat → Prop} {w : World} : ∀ {l : List V} {ds : List Value}, (∀ x ∈ l, isR .str x = true) → CReps ι O w l ds → ds = l.map fun v => Value.string ⟨(toS v).toArray⟩
  | [], ds, _, h => by cases h; rfl
  | v :: l, ds, hl, h => by
    cases h with
    | cons a b =>
      have hv := hl v (List.mem_cons_self ..)
      rw [strs_cells (fun x hx => hl x (List.mem_cons_of_mem _ hx)) b]
      cases v <;> simp [isR] at hv
      cases a
      rfl
def cStrJoin : List V → Option (V × Bool)
  | [.rows (.str) l, .str s] => some (.str (joinV l s), decide (l.length ≤ 140737488355328 ∧ (joinV l s).length ≤ 140737488355328))
  | _ => none
theorem xJoin_con : ∀ vs v, cStrJoin vs = some (v, true) → SpecV Tryd.prog 106 vs v := by
  intro vs v h; unfold cStrJoin at h; split at h
  · rename_i l s
    injection h with h; injection h with h hb; subst h
    obtain ⟨h1, h2⟩ := of_decide_eq_true hb
    intro O w cs hO hv
    obtain ⟨a, b, rfl, ha, hb'⟩ := hv.two_inv
    obtain rfl := hb'.str_inv
    cases ha with
    | agg _ hq => cases hq
    | one ha _ =>
      cases ha with
      | rows hn hc hm he hr hd =>
        rename_i A n c ds
        subst hn
        have hds := strs_cells he hr
        by_cases h0 : l = []
        · subst h0
          refine (Tryd.strings_Join_none A c ⟨s.toArray⟩ w).mono ?_
          rintro e w' ⟨rfl, rfl⟩
          exact ⟨Below.refl _ _, _, rfl, .val (.one (.str (l := [])) rfl)⟩
        · obtain ⟨b, off, rfl, hO', hb, hcell⟩ := hd h0
          have hmap : (l.map (fun v => (⟨(toS v).toArray⟩ : ByteArray))).map (·.data.toList) = l.map toS := by simp
          have hlen : (l.map (fun v => (⟨(toS v).toArray⟩ : ByteArray))).length = l.length := by simp
          have := Tryd.strings_Join b off c (l.map (fun v => (⟨(toS v).toArray⟩ : ByteArray))) ⟨s.toArray⟩ w (by
            intro j x hj
            refine hcell j _ ?_
            rw [hds]
            simp only [List.getElem?_map, Option.map_eq_some_iff] at hj ⊢
            obtain ⟨v, hv, rfl⟩ := hj
            exact ⟨v, hv, rfl⟩) hb (by rw [hlen]; exact h1) (by rw [hlen]; exact hc) (by rw [hmap]; exact h2)
          rw [hmap, hlen] at this
          refine this.mono ?_
          rintro e w' ⟨rfl, hbl⟩
          exact ⟨hbl, _, rfl, .val (.one .str rfl)⟩
  · cases h
def cTru : List V → Option (V × Bool)
  | [] => some (.bool true, true)
  | _ => none
end Go.Proofs.YtpoeinajedbfoaaDoor

namespace Go.Sort
end Go.Sort
namespace Go.Proofs.YtpoeinajedbfoaaDoor
open Go Go.RowKit Go.Sort Go.Lib
end Go.Proofs.YtpoeinajedbfoaaDoor
namespace Go.Proofs.YtpoeinajedbfoaaDoor
open Go Go.Am Go.RowKit Go.Mix Go.Bas Go.Sort
/-! ### the digits of the document -/
theorem dec_len {u : Nat} (h : u < 18446744073709551616) : (Lib.decDigits u).length ≤ 20 := by
  rw [Lib.decDigits_length]
  by_cases h0 : u = 0
  · subst h0; rw [Lib.nDigits_small (by omega)]; omega
  · have := Lib.numDigits_eq u (by omega) h
    split at this <;> omega
theorem itoa_len {n : Int} (h0 : -9223372036854775808 ≤ n) (h1 : n ≤ 9223372036854775807) : (Lib.itoa n).length ≤ 21 := by
  unfold Lib.itoa
  split
  · have := dec_len (u := n.natAbs) (by omega)
    simp; omega
  · have := dec_len (u := n.toNat) (by omega)
    omega
end Go.Proofs.YtpoeinajedbfoaaDoor
