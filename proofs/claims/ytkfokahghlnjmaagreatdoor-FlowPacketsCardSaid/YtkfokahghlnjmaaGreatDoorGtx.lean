/- Part Gtx of the proof: laws used by the law of this claim. -/
import Derived.Shelf.Strings.Builder1
import Derived.Shelf.Strings.Builder2
import Derived.Shelf.Strings.OnBuilder
import Derived.Shelf.Strconv.Itoa0
import Derived.Shelf.Strconv.Itoa1
import Derived.Shelf.LaysM
import Derived.Shelf.Strconv.Itoa2
import Derived.Shelf.Strconv.Itoa3
import Derived.Test.YtkfokahghlnjmaaGreatDoorProg
import Derived.Lib.IndexMore
import Derived.Lib.Split
import Derived.Lib.SplitLaws
import Derived.Lib.ItoaMem
import Derived.WalkKit
import Derived.BigCall
import Derived.BigGuard
import Derived.Test.YtkfokahghlnjmaaGreatDoorGe
import Derived.Test.YtkfokahghlnjmaaGreatDoorGk
import Derived.Test.YtkfokahghlnjmaaGreatDoorGf
set_option linter.all false
namespace Go.Proofs
open Go.Shelf
def Tryz.lays156_ren : Go.Shelf.Ren := ⟨fun | 156 => 69 | 165 => 71 | 166 => 72 | 169 => 73 | 240 => 78 | 241 => 79 | 276 => 85 | 277 => 86 | n => n, fun | 31 => 142 | 9 => 9 | 3 => 3 | 4 => 4 | 0 => 0 | 20 => 20 | 72 => 147 | 76 => 151 | 70 => 145 | 37 => 22 | 75 => 150 | 127 => 160 | 164 => 165 | 5 => 5 | 80 => 153 | n => n, fun | n => n⟩
theorem Tryz.lays156 : Go.Proofs.Lays.n156 Tryz.prog Tryz.lays156_ren := {
  mixed := by kernel_rfl
  f156 := Tryz.func69.trans (congrArg some (by kernel_rfl))
  f165 := Tryz.func71.trans (congrArg some (by kernel_rfl))
  f166 := Tryz.func72.trans (congrArg some (by kernel_rfl))
  f169 := Tryz.func73.trans (congrArg some (by kernel_rfl))
  f240 := Tryz.func78.trans (congrArg some (by kernel_rfl))
  f241 := Tryz.func79.trans (congrArg some (by kernel_rfl))
  f276 := Tryz.func85.trans (congrArg some (by kernel_rfl))
  f277 := Tryz.func86.trans (congrArg some (by kernel_rfl))
  t0 := Tryz.underlying0
  a0 := Tryz.isAgg0
  z0 := Tryz.sizeOf0
  v0 := Tryz.zeroValue0
  t3 := Tryz.underlying3
  a3 := Tryz.isAgg3
  z3 := Tryz.sizeOf3
  v3 := Tryz.zeroValue3
  t4 := Tryz.underlying4
  a4 := Tryz.isAgg4
  z4 := Tryz.sizeOf4
  v4 := Tryz.zeroValue4
  t9 := Tryz.underlying9
  a9 := Tryz.isAgg9
  z9 := Tryz.sizeOf9
  v9 := Tryz.zeroValue9
  t20 := Tryz.underlying20
  a20 := Tryz.isAgg20
  z20 := Tryz.sizeOf20
  v20 := Tryz.zeroValue20
  t31 := Tryz.underlying142
  a31 := Tryz.isAgg142
  z31 := Tryz.sizeOf142
  v31 := Tryz.zeroValue142
  t37 := Tryz.underlying22
  a37 := Tryz.isAgg22
  z37 := Tryz.sizeOf22
  v37 := Tryz.zeroValue22
  t70 := Tryz.underlying145
  a70 := Tryz.isAgg145
  z70 := Tryz.sizeOf145
  v70 := Tryz.zeroValue145
  t72 := Tryz.underlying147
  a72 := Tryz.isAgg147
  z72 := Tryz.sizeOf147
  v72 := Tryz.zeroValue147
  t75 := Tryz.underlying150
  a75 := Tryz.isAgg150
  z75 := Tryz.sizeOf150
  v75 := Tryz.zeroValue150
  t76 := Tryz.underlying151
  a76 := Tryz.isAgg151
  z76 := Tryz.sizeOf151
  v76 := Tryz.zeroValue151
  t127 := Tryz.underlying160
  a127 := Tryz.isAgg160
  z127 := Tryz.sizeOf160
  v127 := Tryz.zeroValue160
  t164 := Tryz.underlying165
  a164 := Tryz.isAgg165
  z164 := Tryz.sizeOf165
  v164 := Tryz.zeroValue165 }
theorem Tryz.Builder_Extra_156 : Builder.Extra Tryz.prog Tryz.lays156_ren := {
  sizeBuilder := by kernel_rfl
  liesBuilder := by kernel_rfl
  t5 := Tryz.underlying5
  a5 := Tryz.isAgg5
  z5 := Tryz.sizeOf5
  v5 := Tryz.zeroValue5
  infoByte := by kernel_rfl
  cellsByte := by kernel_rfl
  sizeByte := by kernel_rfl
  neB5 := by decide }
open Go.RowKit in
theorem Tryz.strings_Join_none (a : Option Addr) (c : Nat) (sep : ByteArray) (w : World) :
    Calls Tryz.prog 69 #[.slice a 0 c, .string sep] w fun e w' => e = .returned (.string ⟨#[]⟩) ∧ w' = w := Any.strings_Join_none Tryz.lays156 Tryz.Builder_Extra_156 a c sep w
open Go.RowKit in
theorem Tryz.strings_Join (bk o c : Nat) (xs : List ByteArray) (sep : ByteArray) (w : World) (hcells : ∀ (j : Nat) x, xs[j]? = some x → w.cell? ⟨bk, o + j, none⟩ = some (.string x)) (hbk : bk < w.heap.size) (hN : xs.length ≤ 140737488355328) (hcap : xs.length ≤ c) (hlen : (Lib.join (xs.map (·.data.toList)) sep.data.toList).length ≤ 140737488355328) :
    Calls Tryz.prog 69 #[.slice (some ⟨bk, o, none⟩) xs.length c, .string sep] w fun e w' => e = .returned (.string ⟨(Lib.join (xs.map (·.data.toList)) sep.data.toList).toArray⟩) ∧ Below w.heap.size w w' := Any.strings_Join Tryz.lays156 Tryz.Builder_Extra_156 bk o c xs sep w hcells hbk hN hcap hlen
def Tryz.laysM171_ren : Go.Shelf.Ren := ⟨fun | 171 => 51 | 243 => 66 | 246 => 70 | 283 => 74 | 284 => 75 | 285 => 76 | 286 => 77 | 129 => 81 | 317 => 80 | 318 => 82 | 319 => 83 | 320 => 84 | 337 => 87 | 338 => 88 | n => n, fun | 3 => 3 | 9 => 9 | 2 => 2 | 4 => 4 | 171 => 154 | 0 => 0 | 53 => 155 | 37 => 22 | 5 => 5 | 173 => 158 | 212 => 162 | 51 => 31 | 20 => 20 | 213 => 163 | 46 => 90 | 232 => 168 | 233 => 169 | n => n, fun | 17 => 0 | 18 => 2 | 19 => 3 | n => n⟩
theorem Tryz.laysM171 : Go.Proofs.LaysM.n171 Tryz.prog Tryz.laysM171_ren := {
  mixed := by kernel_rfl
  f129 := Tryz.func81.trans (congrArg some (by kernel_rfl))
  f171 := Tryz.func51.trans (congrArg some (by kernel_rfl))
  f243 := Tryz.func66.trans (congrArg some (by kernel_rfl))
  f246 := Tryz.func70.trans (congrArg some (by kernel_rfl))
  f283 := Tryz.func74.trans (congrArg some (by kernel_rfl))
  f284 := Tryz.func75.trans (congrArg some (by kernel_rfl))
  f285 := Tryz.func76.trans (congrArg some (by kernel_rfl))
  f286 := Tryz.func77.trans (congrArg some (by kernel_rfl))
  f317 := Tryz.func80.trans (congrArg some (by kernel_rfl))
  f318 := Tryz.func82.trans (congrArg some (by kernel_rfl))
  f319 := Tryz.func83.trans (congrArg some (by kernel_rfl))
  f320 := Tryz.func84.trans (congrArg some (by kernel_rfl))
  f337 := Tryz.func87.trans (congrArg some (by kernel_rfl))
  f338 := Tryz.func88.trans (congrArg some (by kernel_rfl))
  t0 := Tryz.underlying0
  a0 := Tryz.isAgg0
  z0 := Tryz.sizeOf0
  v0 := Tryz.zeroValue0
  t2 := Tryz.underlying2
  a2 := Tryz.isAgg2
  z2 := Tryz.sizeOf2
  v2 := Tryz.zeroValue2
  t3 := Tryz.underlying3
  a3 := Tryz.isAgg3
  z3 := Tryz.sizeOf3
  v3 := Tryz.zeroValue3
  t4 := Tryz.underlying4
  a4 := Tryz.isAgg4
  z4 := Tryz.sizeOf4
  v4 := Tryz.zeroValue4
  t5 := Tryz.underlying5
  a5 := Tryz.isAgg5
  z5 := Tryz.sizeOf5
  v5 := Tryz.zeroValue5
  t9 := Tryz.underlying9
  a9 := Tryz.isAgg9
  z9 := Tryz.sizeOf9
  v9 := Tryz.zeroValue9
  t20 := Tryz.underlying20
  a20 := Tryz.isAgg20
  z20 := Tryz.sizeOf20
  v20 := Tryz.zeroValue20
  t37 := Tryz.underlying22
  a37 := Tryz.isAgg22
  z37 := Tryz.sizeOf22
  v37 := Tryz.zeroValue22
  t46 := Tryz.underlying90
  a46 := Tryz.isAgg90
  z46 := Tryz.sizeOf90
  v46 := Tryz.zeroValue90
  t51 := Tryz.underlying31
  a51 := Tryz.isAgg31
  z51 := Tryz.sizeOf31
  v51 := Tryz.zeroValue31
  t53 := Tryz.underlying155
  a53 := Tryz.isAgg155
  z53 := Tryz.sizeOf155
  v53 := Tryz.zeroValue155
  t171 := Tryz.underlying154
  a171 := Tryz.isAgg154
  z171 := Tryz.sizeOf154
  v171 := Tryz.zeroValue154
  t173 := Tryz.underlying158
  a173 := Tryz.isAgg158
  z173 := Tryz.sizeOf158
  v173 := Tryz.zeroValue158
  t212 := Tryz.underlying162
  a212 := Tryz.isAgg162
  z212 := Tryz.sizeOf162
  v212 := Tryz.zeroValue162
  t213 := Tryz.underlying163
  a213 := Tryz.isAgg163
  z213 := Tryz.sizeOf163
  t232 := Tryz.underlying168
  a232 := Tryz.isAgg168
  z232 := Tryz.sizeOf168
  v232 := Tryz.zeroValue168
  t233 := Tryz.underlying169
  a233 := Tryz.isAgg169
  z233 := Tryz.sizeOf169
  v233 := Tryz.zeroValue169
  g17 := by kernel_rfl
  g18 := by kernel_rfl
  g19 := by kernel_rfl
  i0 := by kernel_rfl
  i2 := by kernel_rfl
  i3 := by kernel_rfl
  i4 := by kernel_rfl
  i5 := by kernel_rfl
  i9 := by kernel_rfl
  i20 := by kernel_rfl
  i37 := by kernel_rfl
  i46 := by kernel_rfl
  i51 := by kernel_rfl
  i53 := by kernel_rfl
  i171 := by kernel_rfl
  i173 := by kernel_rfl
  i212 := by kernel_rfl
  i232 := by kernel_rfl
  i233 := by kernel_rfl
  m17 := by kernel_rfl
  m18 := by kernel_rfl
  m19 := by kernel_rfl }
open Go.RowKit Go.Sort Go.Lib in
theorem Tryz.strconv_Itoa (n : Int) (h0 : -9223372036854775808 ≤ n) (h1 : n ≤ 9223372036854775807) (w : World) (htab : Lib.TabIs Tryz.prog w "internal/strconv.uint64pow10" .u64 Lib.pow10Tab) :
    Calls Tryz.prog 51 #[.int .i64 n] w fun e w' => e = .returned (.string ⟨(Lib.itoa n).toArray⟩) ∧ ∃ k os, w' = grow (w.drewN k) os := Any.strconv_Itoa Tryz.laysM171 n h0 h1 w htab
end Go.Proofs

namespace Go.Proofs.YtkfokahghlnjmaaGreatDoor
open Go Go.Am Go.RowKit Go.Mix Go.Bas Go.Sort
theorem bel_grow (w : World) (k : Nat) (os : Array Obj) : Below w.heap.size w (grow (w.drewN k) os) :=
  ⟨rfl, rfl, rfl, by show w.heap.size ≤ (w.heap ++ os).size; simp, fun i hi => by show (w.heap ++ os)[i]? = w.heap[i]?; rw [Array.getElem?_append_left hi]⟩
theorem tab_of {w : World} (h : LaidW w) : Lib.TabIs Tryz.prog w "internal/strconv.uint64pow10" .u64 Lib.pow10Tab := by
  obtain ⟨o, h1, T, fz, rfl⟩ := h (0, isTab .u64 Lib.pow10Tab) (by simp [goods])
  unfold Lib.TabIs World.var?
  rw [show Tryz.prog.globalNamed "internal/strconv.uint64pow10" = some 0 by kernel_rfl]
  have h1 : w.heap[0]? = some (.cells (vCells .u64 Lib.pow10Tab) T fz) := h1
  simp only [Option.bind_some, h1]
  rfl
def cItoa : List V → Option (V × Bool)
  | [.int .i64 n] => some (.str (Lib.itoa n), decide (-9223372036854775808 ≤ n ∧ n ≤ 9223372036854775807))
  | _ => none
theorem xItoa_con : ∀ vs v, cItoa vs = some (v, true) → SpecV Tryz.prog 51 vs v := by
  intro vs v h; unfold cItoa at h; split at h
  · rename_i n
    injection h with h; injection h with h hb; subst h
    obtain ⟨h0, h1⟩ := of_decide_eq_true hb
    intro O w cs hO hv
    obtain ⟨a, rfl, ha⟩ := hv.one_inv
    obtain ⟨rfl, _⟩ := ha.int_inv
    refine (Tryz.strconv_Itoa n h0 h1 w (tab_of hO.good)).mono ?_
    rintro e w' ⟨rfl, k, os, rfl⟩
    exact ⟨bel_grow w k os, _, rfl, .val (.one .str rfl)⟩
  · cases h
/-- the pieces of a text -/
def pieces (s t : List UInt8) : List V := (Lib.splitB ⟨t.toArray⟩ 0 (Lib.countB ⟨s.toArray⟩ ⟨t.toArray⟩) ⟨s.toArray⟩).map fun b => V.str b.data.toList
/-- texts with another one between -/
def joinV (l : List V) (s : List UInt8) : List UInt8 := Lib.join (l.map toS) s
theorem strs_cells {ι : Nat → Option Cn} {O : Nat → Prop} {w : World} : ∀ {l : List V} {ds : List Value}, (∀ x ∈ l, isR .str x = true) → CReps ι O w l ds → ds = l.map fun v => Value.string ⟨(toS v).toArray⟩
  | [], ds, _, h => by cases h; rfl
  | v :: l, ds, hl, h => by
    cases h with
    | cons a b =>
      have hv := hl v (List.mem_cons_self ..)
      rw [strs_cells (fun x hx => hl x (List.mem_cons_of_mem _ hx)) b]
      cases v <;> simp [isR] at hv
      cases a
      rfl
def cStrJoin : List V → Option (V × Bool)
  | [.rows (.str) l, .str s] => some (.str (joinV l s), decide (l.length ≤ 140737488355328 ∧ (joinV l s).length ≤ 140737488355328))
  | _ => none
theorem xJoin_con : ∀ vs v, cStrJoin vs = some (v, true) → SpecV Tryz.prog 69 vs v := by
  intro vs v h; unfold cStrJoin at h; split at h
  · rename_i l s
    injection h with h; injection h with h hb; subst h
    obtain ⟨h1, h2⟩ := of_decide_eq_true hb
    intro O w cs hO hv
    obtain ⟨a, b, rfl, ha, hb'⟩ := hv.two_inv
    obtain rfl := hb'.str_inv
    cases ha with
    | agg _ hq => cases hq
    | one ha _ =>
      cases ha with
      | rows hn hc hm he hr hd =>
        rename_i A n c ds
        subst hn
        have hds := strs_cells he hr
        by_cases h0 : l = []
        · subst h0
          refine (Tryz.strings_Join_none A c ⟨s.toArray⟩ w).mono ?_
          rintro e w' ⟨rfl, rfl⟩
          exact ⟨Below.refl _ _, _, rfl, .val (.one (.str (l := [])) rfl)⟩
        · obtain ⟨b, off, rfl, hO', hb, hcell⟩ := hd h0
          have hmap : (l.map (fun v => (⟨(toS v).toArray⟩ : ByteArray))).map (·.data.toList) = l.map toS := by simp
          have hlen : (l.map (fun v => (⟨(toS v).toArray⟩ : ByteArray))).length = l.length := by simp
          have := Tryz.strings_Join b off c (l.map (fun v => (⟨(toS v).toArray⟩ : ByteArray))) ⟨s.toArray⟩ w (by
            intro j x hj
            refine hcell j _ ?_
            rw [hds]
            simp only [List.getElem?_map, Option.map_eq_some_iff] at hj ⊢
            obtain ⟨v, hv, rfl⟩ := hj
            exact ⟨v, hv, rfl⟩) hb (by rw [hlen]; exact h1) (by rw [hlen]; exact hc) (by rw [hmap]; exact h2)
          rw [hmap, hlen] at this
          refine this.mono ?_
          rintro e w' ⟨rfl, hbl⟩
          exact ⟨hbl, _, rfl, .val (.one .str rfl)⟩
  · cases h
def cTru : List V → Option (V × Bool)
  | [] => some (.bool true, true)
  | _ => none
end Go.Proofs.YtkfokahghlnjmaaGreatDoor

namespace Go.Proofs.YtkfokahghlnjmaaGreatDoor
open Go Go.RowKit Go.Sort Go.Lib
end Go.Proofs.YtkfokahghlnjmaaGreatDoor
namespace Go.Proofs.YtkfokahghlnjmaaGreatDoor
open Go Go.Am Go.RowKit Go.Mix Go.Bas Go.Sort
/-! ### the digits of the document -/
theorem dec_len {u : Nat} (h : u < 18446744073709551616) : (Lib.decDigits u).length ≤ 20 := by
  rw [Lib.decDigits_length]
  by_cases h0 : u = 0
  · subst h0; rw [Lib.nDigits_small (by omega)]; omega
  · have := Lib.numDigits_eq u (by omega) h
    split at this <;> omega
theorem itoa_len {n : Int} (h0 : -9223372036854775808 ≤ n) (h1 : n ≤ 9223372036854775807) : (Lib.itoa n).length ≤ 21 := by
  unfold Lib.itoa
  split
  · have := dec_len (u := n.natAbs) (by omega)
    simp; omega
  · have := dec_len (u := n.toNat) (by omega)
    omega
end Go.Proofs.YtkfokahghlnjmaaGreatDoor
