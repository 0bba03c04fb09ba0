/- Part Gtx of the proof: laws used by the law of this claim. -/
import Derived.Shelf.Strings.Builder1
import Derived.Shelf.Strings.Builder2
import Derived.Shelf.Strings.OnBuilder
import Derived.Shelf.Small.Bits
import Derived.Shelf.Strconv.Itoa0
import Derived.Shelf.Strconv.Itoa1
import Derived.Shelf.LaysM
import Derived.Shelf.Strconv.Itoa2
import Derived.Shelf.Strconv.Itoa3
import Derived.Shelf.Strings.Search1
import Derived.Shelf.Strings.Search2
import Derived.Shelf.Strings.Search3
import Derived.Shelf.Strings.Count
import Derived.Shelf.Strings.Shaped
import Derived.Shelf.Strings.Split
import Derived.Test.YtpoeinajedbfoaaDoorProg
import Derived.Lib.IndexMore
import Derived.Sort.Grow
import Derived.Lib.Split
import Derived.Lib.SplitLaws
import Derived.Lib.ItoaMem
import Derived.WalkKit
import Derived.BigCall
import Derived.BigGuard
import Derived.Test.YtpoeinajedbfoaaDoorGe
import Derived.Test.YtpoeinajedbfoaaDoorGk
import Derived.Test.YtpoeinajedbfoaaDoorGf
set_option linter.all false
namespace Go.Proofs
open Go.Shelf
def Tryd.laysM171_ren : Go.Shelf.Ren := ⟨fun | 171 => 38 | 243 => 58 | 246 => 68 | 283 => 80 | 284 => 81 | 285 => 82 | 286 => 83 | 129 => 100 | 317 => 101 | 318 => 102 | 319 => 103 | 320 => 104 | 337 => 117 | 338 => 118 | n => n, fun | 3 => 3 | 9 => 9 | 2 => 2 | 4 => 4 | 171 => 109 | 0 => 0 | 53 => 88 | 37 => 61 | 5 => 5 | 173 => 112 | 212 => 132 | 51 => 130 | 20 => 20 | 213 => 133 | 46 => 108 | 232 => 150 | 233 => 151 | n => n, fun | 17 => 0 | 18 => 4 | 19 => 5 | n => n⟩
theorem Tryd.laysM171 : Go.Proofs.LaysM.n171 Tryd.prog Tryd.laysM171_ren := {
  mixed := by kernel_rfl
  f129 := Tryd.func100.trans (congrArg some (by kernel_rfl))
  f171 := Tryd.func38.trans (congrArg some (by kernel_rfl))
  f243 := Tryd.func58.trans (congrArg some (by kernel_rfl))
  f246 := Tryd.func68.trans (congrArg some (by kernel_rfl))
  f283 := Tryd.func80.trans (congrArg some (by kernel_rfl))
  f284 := Tryd.func81.trans (congrArg some (by kernel_rfl))
  f285 := Tryd.func82.trans (congrArg some (by kernel_rfl))
  f286 := Tryd.func83.trans (congrArg some (by kernel_rfl))
  f317 := Tryd.func101.trans (congrArg some (by kernel_rfl))
  f318 := Tryd.func102.trans (congrArg some (by kernel_rfl))
  f319 := Tryd.func103.trans (congrArg some (by kernel_rfl))
  f320 := Tryd.func104.trans (congrArg some (by kernel_rfl))
  f337 := Tryd.func117.trans (congrArg some (by kernel_rfl))
  f338 := Tryd.func118.trans (congrArg some (by kernel_rfl))
  t0 := Tryd.underlying0
  a0 := Tryd.isAgg0
  z0 := Tryd.sizeOf0
  v0 := Tryd.zeroValue0
  t2 := Tryd.underlying2
  a2 := Tryd.isAgg2
  z2 := Tryd.sizeOf2
  v2 := Tryd.zeroValue2
  t3 := Tryd.underlying3
  a3 := Tryd.isAgg3
  z3 := Tryd.sizeOf3
  v3 := Tryd.zeroValue3
  t4 := Tryd.underlying4
  a4 := Tryd.isAgg4
  z4 := Tryd.sizeOf4
  v4 := Tryd.zeroValue4
  t5 := Tryd.underlying5
  a5 := Tryd.isAgg5
  z5 := Tryd.sizeOf5
  v5 := Tryd.zeroValue5
  t9 := Tryd.underlying9
  a9 := Tryd.isAgg9
  z9 := Tryd.sizeOf9
  v9 := Tryd.zeroValue9
  t20 := Tryd.underlying20
  a20 := Tryd.isAgg20
  z20 := Tryd.sizeOf20
  v20 := Tryd.zeroValue20
  t37 := Tryd.underlying61
  a37 := Tryd.isAgg61
  z37 := Tryd.sizeOf61
  v37 := Tryd.zeroValue61
  t46 := Tryd.underlying108
  a46 := Tryd.isAgg108
  z46 := Tryd.sizeOf108
  v46 := Tryd.zeroValue108
  t51 := Tryd.underlying130
  a51 := Tryd.isAgg130
  z51 := Tryd.sizeOf130
  v51 := Tryd.zeroValue130
  t53 := Tryd.underlying88
  a53 := Tryd.isAgg88
  z53 := Tryd.sizeOf88
  v53 := Tryd.zeroValue88
  t171 := Tryd.underlying109
  a171 := Tryd.isAgg109
  z171 := Tryd.sizeOf109
  v171 := Tryd.zeroValue109
  t173 := Tryd.underlying112
  a173 := Tryd.isAgg112
  z173 := Tryd.sizeOf112
  v173 := Tryd.zeroValue112
  t212 := Tryd.underlying132
  a212 := Tryd.isAgg132
  z212 := Tryd.sizeOf132
  v212 := Tryd.zeroValue132
  t213 := Tryd.underlying133
  a213 := Tryd.isAgg133
  z213 := Tryd.sizeOf133
  t232 := Tryd.underlying150
  a232 := Tryd.isAgg150
  z232 := Tryd.sizeOf150
  v232 := Tryd.zeroValue150
  t233 := Tryd.underlying151
  a233 := Tryd.isAgg151
  z233 := Tryd.sizeOf151
  v233 := Tryd.zeroValue151
  g17 := by kernel_rfl
  g18 := by kernel_rfl
  g19 := by kernel_rfl
  i0 := by kernel_rfl
  i2 := by kernel_rfl
  i3 := by kernel_rfl
  i4 := by kernel_rfl
  i5 := by kernel_rfl
  i9 := by kernel_rfl
  i20 := by kernel_rfl
  i37 := by kernel_rfl
  i46 := by kernel_rfl
  i51 := by kernel_rfl
  i53 := by kernel_rfl
  i171 := by kernel_rfl
  i173 := by kernel_rfl
  i212 := by kernel_rfl
  i232 := by kernel_rfl
  i233 := by kernel_rfl
  m17 := by kernel_rfl
  m18 := by kernel_rfl
  m19 := by kernel_rfl }
open Go.RowKit Go.Sort Go.Lib in
theorem Tryd.strconv_Itoa (n : Int) (h0 : -9223372036854775808 ≤ n) (h1 : n ≤ 9223372036854775807) (w : World) (htab : Lib.TabIs Tryd.prog w "internal/strconv.uint64pow10" .u64 Lib.pow10Tab) :
    Calls Tryd.prog 38 #[.int .i64 n] w fun e w' => e = .returned (.string ⟨(Lib.itoa n).toArray⟩) ∧ ∃ k os, w' = grow (w.drewN k) os := Any.strconv_Itoa Tryd.laysM171 n h0 h1 w htab
end Go.Proofs

namespace Go.Sort
end Go.Sort
namespace Go.Proofs.YtpoeinajedbfoaaDoor
open Go Go.Am Go.RowKit Go.Mix Go.Bas Go.Sort
theorem bel_grow (w : World) (k : Nat) (os : Array Obj) : Below w.heap.size w (grow (w.drewN k) os) :=
  ⟨rfl, rfl, rfl, by show w.heap.size ≤ (w.heap ++ os).size; simp, fun i hi => by show (w.heap ++ os)[i]? = w.heap[i]?; rw [Array.getElem?_append_left hi]⟩
theorem bel_drew (w : World) (n : Nat) : Below w.heap.size w (w.drewN n) := ⟨rfl, rfl, rfl, Nat.le_refl _, fun _ _ => rfl⟩
theorem tab_of {w : World} (h : LaidW w) : Lib.TabIs Tryd.prog w "internal/strconv.uint64pow10" .u64 Lib.pow10Tab := by
  obtain ⟨o, h1, T, fz, rfl⟩ := h (0, isTab .u64 Lib.pow10Tab) (by simp [goods])
  unfold Lib.TabIs World.var?
  rw [show Tryd.prog.globalNamed "internal/strconv.uint64pow10" = some 0 by kernel_rfl]
  have h1 : w.heap[0]? = some (.cells (vCells .u64 Lib.pow10Tab) T fz) := h1
  simp only [Option.bind_some, h1]
  rfl
def cItoa : List V → Option (V × Bool)
  | [.int .i64 n] => some (.str (Lib.itoa n), decide (-9223372036854775808 ≤ n ∧ n ≤ 9223372036854775807))
  | _ => none
theorem xItoa_con : ∀ vs v, cItoa vs = some (v, true) → SpecV Tryd.prog 38 vs v := by
  intro vs v h; unfold cItoa at h; split at h
  · rename_i n
    injection h with h; injection h with h hb; subst h
    obtain ⟨h0, h1⟩ := of_decide_eq_true hb
    intro O w cs hO hv
    obtain ⟨a, rfl, ha⟩ := hv.one_inv
    obtain ⟨rfl, _⟩ := ha.int_inv
    refine (Tryd.strconv_Itoa n h0 h1 w (tab_of hO.good)).mono ?_
    rintro e w' ⟨rfl, k, os, rfl⟩
    exact ⟨bel_grow w k os, _, rfl, .val (.one .str rfl)⟩
  · cases h
def cTru : List V → Option (V × Bool)
  | [] => some (.bool true, true)
  | _ => none
end Go.Proofs.YtpoeinajedbfoaaDoor

namespace Go.Sort
end Go.Sort
namespace Go.Proofs.YtpoeinajedbfoaaDoor
open Go Go.RowKit Go.Sort Go.Lib
end Go.Proofs.YtpoeinajedbfoaaDoor
namespace Go.Proofs.YtpoeinajedbfoaaDoor
open Go Go.Am Go.RowKit Go.Mix Go.Bas Go.Sort
/-! ### the digits of the document -/
def cDig (k : Nat) : List V → Option (V × Bool)
  | [.int .u64 n] => some (.str (Lib.decDigits n.toNat), decide (0 ≤ n ∧ n < 18446744073709551616 ∧ n.toNat < k))
  | _ => none
noncomputable def af_rDig : AF := afOf Tryd.prog Tryd.f57 []
theorem af_rDig_ok : AllOk Tryd.prog 57 af_rDig := .flat Tryd.func57 (by kernel_rfl) (by kernel_rfl) (by kernel_rfl) (by kernel_rfl) (by kernel_rfl)
noncomputable def Edig (k : Nat) : Env := ⟨Tryd.prog, [(57, .val [.int .u64] (cDig k))], [], [], []⟩
theorem Edig_ok {k : Nat} (h : ∀ vs v, cDig k vs = some (v, true) → SpecV Tryd.prog 57 vs v) : EnvOk (Edig k) :=
  ⟨by kernel_rfl, .cons (enters_of Tryd.func57 (by kernel_rfl) rfl) h <| .nil, IOk.nil, COk.nil, XOk.nil⟩
theorem rDig_t (k : Nat) (n : Int) : callV (Edig k) af_rDig [.int .u64 n] =
 bif decide (n < (10 : Int)) then
 some (V.str (u8 (IntKind.u8.wrap (IntKind.u64.wrap ((48 : Int) + n))) :: List.replicate (nat_lit 0) (0 : UInt8)))
 else
 bif
 andT
 (andT
 (andT true
 (decide
 ((0 : Int) ≤ IntKind.u64.wrap (n.tdiv (10 : Int)) ∧
 IntKind.u64.wrap (n.tdiv (10 : Int)) < (18446744073709551616 : Int) ∧
 (IntKind.u64.wrap (n.tdiv (10 : Int))).toNat < k)))
 (decide
 ((0 : Int) ≤ n.tmod (10 : Int) ∧
 n.tmod (10 : Int) < (18446744073709551616 : Int) ∧ (n.tmod (10 : Int)).toNat < k)))
 (((Lib.decDigits (IntKind.u64.wrap (n.tdiv (10 : Int))).toNat).length +
 (Lib.decDigits (n.tmod (10 : Int)).toNat).length).ble
 (9223372036854775807 : Nat)) then
 some
 (V.str (Lib.decDigits (IntKind.u64.wrap (n.tdiv (10 : Int))).toNat ++ Lib.decDigits (n.tmod (10 : Int)).toNat))
 else none := by kernel_rfl

theorem dec_small {u : Nat} (h : u < 10) : Lib.decDigits u = [UInt8.ofNat (48 + u)] := by rw [Lib.decDigits, dif_pos h]
theorem dec_big {u : Nat} (h : ¬ u < 10) : Lib.decDigits u = Lib.decDigits (u / 10) ++ [UInt8.ofNat (48 + u % 10)] := by rw [Lib.decDigits, dif_neg h]


theorem wu64 {x : Int} (h0 : 0 ≤ x) (h1 : x ≤ 18446744073709551615) : IntKind.u64.wrap x = x := by rw [IntKind.wrap_u64]; omega
theorem dec_len {u : Nat} (h : u < 18446744073709551616) : (Lib.decDigits u).length ≤ 20 := by
  rw [Lib.decDigits_length]
  by_cases h0 : u = 0
  · subst h0; rw [Lib.nDigits_small (by omega)]; omega
  · have := Lib.numDigits_eq u (by omega) h
    split at this <;> omega
theorem itoa_len {n : Int} (h0 : -9223372036854775808 ≤ n) (h1 : n ≤ 9223372036854775807) : (Lib.itoa n).length ≤ 21 := by
  unfold Lib.itoa
  split
  · have := dec_len (u := n.natAbs) (by omega)
    simp; omega
  · have := dec_len (u := n.toNat) (by omega)
    omega
theorem rDig_v (k : Nat) (u : Nat) (h1 : u < 18446744073709551616) (hk : u < k + 1) : callV (Edig k) af_rDig [.int .u64 u] = some (.str (Lib.decDigits u)) := by
  rw [rDig_t]
  by_cases h : u < 10
  · rw [dec_small h, wu64 (by omega) (by omega)]
    have e : u8 (IntKind.u8.wrap ((48 : Int) + u)) = UInt8.ofNat (48 + u) := by
      unfold u8
      rw [wu8 (by omega) (by omega)]
      congr 1
    rw [e]
    simp (disch := omega) only [dec_t, dec_f, inB_t, inC_t, andT_t, cond_true, cond_false, Bool.and_true, Bool.true_and, w64, wu32, wu8, nble_t, nblt_t, Bool.not_true, Bool.not_false, Bool.not_not, ieq_t, ieq_f, ine_t, ine_f, true_and, and_true, andT_l]
    rfl
  · rw [dec_big h]
    have e1 : (u : Int).tdiv 10 = ((u / 10 : Nat) : Int) := by rw [Int.tdiv_eq_ediv_of_nonneg (by omega)]; omega
    have e2 : (u : Int).tmod 10 = ((u % 10 : Nat) : Int) := by rw [Int.tmod_eq_emod_of_nonneg (by omega)]; omega
    have l1 := dec_len (u := u / 10) (by omega)
    rw [e1, e2, wu64 (x := ((u / 10 : Nat) : Int)) (by omega) (by omega), Int.toNat_natCast, Int.toNat_natCast, dec_small (u := u % 10) (by omega)]
    have l2 : [UInt8.ofNat (48 + u % 10)].length = 1 := rfl
    simp (disch := omega) only [dec_t, dec_f, inB_t, inC_t, andT_t, cond_true, cond_false, Bool.and_true, Bool.true_and, w64, wu32, wu8, nble_t, nblt_t, Bool.not_true, Bool.not_false, Bool.not_not, ieq_t, ieq_f, ine_t, ine_f, true_and, and_true, andT_l]
theorem dig_con : ∀ (k : Nat), ∀ vs v, cDig k vs = some (v, true) → SpecV Tryd.prog 57 vs v
  | 0 => by
    intro vs v h; unfold cDig at h; split at h
    · rename_i n
      injection h with h; injection h with h hb
      have := of_decide_eq_true hb
      omega
    · cases h
  | k + 1 => by
    intro vs v h; unfold cDig at h; split at h
    · rename_i n
      injection h with h; injection h with h hb; subst h
      obtain ⟨h0, h1, h2⟩ := of_decide_eq_true hb
      obtain ⟨u, rfl⟩ := Int.eq_ofNat_of_zero_le h0
      exact callV_ok (Edig_ok (dig_con k)) af_rDig_ok (rDig_v k u (by omega) (by omega))
    · cases h
def cDigs : List V → Option (V × Bool)
  | [.int .u64 n] => some (.str (Lib.decDigits n.toNat), decide (0 ≤ n ∧ n < 18446744073709551616))
  | _ => none
theorem rDigs_con : ∀ vs v, cDigs vs = some (v, true) → SpecV Tryd.prog 57 vs v := by
  intro vs v h; unfold cDigs at h; split at h
  · rename_i n
    injection h with h; injection h with h hb; subst h
    obtain ⟨h0, h1⟩ := of_decide_eq_true hb
    have e : cDig 18446744073709551616 [.int .u64 n] = some (.str (Lib.decDigits n.toNat), decide (0 ≤ n ∧ n < 18446744073709551616 ∧ n.toNat < 18446744073709551616)) := rfl
    rw [decide_eq_true (show 0 ≤ n ∧ n < 18446744073709551616 ∧ n.toNat < 18446744073709551616 from ⟨h0, h1, by omega⟩)] at e
    exact dig_con 18446744073709551616 _ _ e
  · cases h
noncomputable def af_rDigits : AF := afOf Tryd.prog Tryd.f35 []
theorem af_rDigits_ok : AllOk Tryd.prog 35 af_rDigits := .flat Tryd.func35 (by kernel_rfl) (by kernel_rfl) (by kernel_rfl) (by kernel_rfl) (by kernel_rfl)
noncomputable def GEtxc : List (Nat × Con) := [(57, .val [.int .u64] cDigs)]
theorem GEtxc_ok : GOk Tryd.prog GEtxc := .cons (enters_of Tryd.func57 (by kernel_rfl) rfl) rDigs_con <| .nil
noncomputable def IEtxc : List (Nat × AF) := []
theorem IEtxc_ok : IOk Tryd.prog IEtxc := .nil
noncomputable def CEtxc : List (Nat × (List Nat × (S → Option (Bool × Tr)))) := []
theorem CEtxc_ok : COk Tryd.prog CEtxc := .nil
noncomputable def XEtxc : List (Nat × (List Sh × (List V → PT))) := []
theorem XEtxc_ok : XOk Tryd.prog XEtxc := .nil
noncomputable def Etxc : Env := ⟨Tryd.prog, GEtxc, IEtxc, CEtxc, XEtxc⟩
theorem Etxc_ok : EnvOk Etxc := ⟨by kernel_rfl, GEtxc_ok, IEtxc_ok, CEtxc_ok, XEtxc_ok⟩
theorem rDigits_t (n : Int) : callV Etxc af_rDigits [.int .i64 n] =
 bif decide (n < (0 : Int)) then
 bif
 andT
 (andT true
 (decide
 ((0 : Int) ≤
 IntKind.u64.wrap
 (IntKind.u64.wrap (IntKind.i64.wrap ((0 : Int) - IntKind.i64.wrap (n + (1 : Int)))) + (1 : Int)) ∧
 IntKind.u64.wrap
 (IntKind.u64.wrap (IntKind.i64.wrap ((0 : Int) - IntKind.i64.wrap (n + (1 : Int)))) + (1 : Int)) <
 (18446744073709551616 : Int))))
 (((1 : Nat) +
 (Lib.decDigits
 (IntKind.u64.wrap
 (IntKind.u64.wrap (IntKind.i64.wrap ((0 : Int) - IntKind.i64.wrap (n + (1 : Int)))) +
 (1 : Int))).toNat).length).ble
 (9223372036854775807 : Nat)) then
 some
 (V.str
 ([(45 : UInt8)] ++
 Lib.decDigits
 (IntKind.u64.wrap
 (IntKind.u64.wrap (IntKind.i64.wrap ((0 : Int) - IntKind.i64.wrap (n + (1 : Int)))) +
 (1 : Int))).toNat))
 else none
 else
 bif andT true (decide ((0 : Int) ≤ IntKind.u64.wrap n ∧ IntKind.u64.wrap n < (18446744073709551616 : Int))) then
 some (V.str (Lib.decDigits (IntKind.u64.wrap n).toNat))
 else none := by kernel_rfl

theorem rDigits_v (n : Int) (h0 : -9223372036854775808 ≤ n) (h1 : n ≤ 9223372036854775807) : callV Etxc af_rDigits [.int .i64 n] = some (.str (Lib.itoa n)) := by
  rw [rDigits_t]
  unfold Lib.itoa
  by_cases h : n < 0
  · rw [if_pos h, w64 (x := n + 1) (by omega) (by omega), w64 (x := 0 - (n + 1)) (by omega) (by omega), wu64 (x := 0 - (n + 1)) (by omega) (by omega), wu64 (x := 0 - (n + 1) + 1) (by omega) (by omega), show (0 - (n + 1) + 1).toNat = n.natAbs by omega]
    have l1 := dec_len (u := n.natAbs) (by omega)
    simp (disch := omega) only [dec_t, dec_f, inB_t, inC_t, andT_t, cond_true, cond_false, Bool.and_true, Bool.true_and, w64, wu32, wu8, nble_t, nblt_t, Bool.not_true, Bool.not_false, Bool.not_not, ieq_t, ieq_f, ine_t, ine_f, true_and, and_true, andT_l]
    rfl
  · rw [if_neg h, wu64 (x := n) (by omega) (by omega)]
    simp (disch := omega) only [dec_t, dec_f, inB_t, inC_t, andT_t, cond_true, cond_false, Bool.and_true, Bool.true_and, w64, wu32, wu8, nble_t, nblt_t, Bool.not_true, Bool.not_false, Bool.not_not, ieq_t, ieq_f, ine_t, ine_f, true_and, and_true, andT_l]
theorem rDigits_con : ∀ vs v, cItoa vs = some (v, true) → SpecV Tryd.prog 35 vs v := by
  intro vs v h; unfold cItoa at h; split at h
  · rename_i n
    injection h with h; injection h with h hb; subst h
    exact callV_ok Etxc_ok af_rDigits_ok ((by obtain ⟨h0, h1⟩ := of_decide_eq_true hb; exact rDigits_v n h0 h1))
  · cases h
end Go.Proofs.YtpoeinajedbfoaaDoor
