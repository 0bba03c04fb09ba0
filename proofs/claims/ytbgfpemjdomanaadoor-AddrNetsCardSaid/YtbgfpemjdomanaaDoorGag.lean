/- Part Gag of the proof: laws used by the law of this claim. -/
import Derived.Test.YtbgfpemjdomanaaDoorGaf
import Derived.Test.YtbgfpemjdomanaaDoorGsi
import Derived.Test.YtbgfpemjdomanaaDoorGf
set_option linter.all false
namespace Go.Proofs.YtbgfpemjdomanaaDoor
open Go Go.Am Go.RowKit Go.Mix Go.Bas
theorem hi_step (x y m : Nat) : x / 2 ^ m = y / 2 ^ m ↔ x / 2 ^ (m + 1) = y / 2 ^ (m + 1) ∧ x / 2 ^ m % 2 = y / 2 ^ m % 2 := by
  rw [Nat.pow_succ, ← Nat.div_div_eq_div_mul, ← Nat.div_div_eq_div_mul]
  omega
theorem hi_iff (x y : Nat) (hx : x < 256) (hy : y < 256) : ∀ k, k ≤ 8 → (x / 2 ^ (8 - k) = y / 2 ^ (8 - k) ↔ ∀ j, j < k → x / 2 ^ (7 - j) % 2 = y / 2 ^ (7 - j) % 2)
  | 0, _ => by
    have e1 : x / 2 ^ (8 - 0) = 0 := Nat.div_eq_of_lt hx
    have e2 : y / 2 ^ (8 - 0) = 0 := Nat.div_eq_of_lt hy
    rw [e1, e2]
    exact ⟨fun _ j hj => absurd hj (Nat.not_lt_zero j), fun _ => rfl⟩
  | k + 1, h => by
    have ih := hi_iff x y hx hy k (by omega)
    have e : 8 - (k + 1) = 7 - k := by omega
    have e2 : 8 - k = (7 - k) + 1 := by omega
    rw [e, hi_step, ← e2, ih]
    constructor
    · rintro ⟨h1, h2⟩ j hj
      rcases Nat.lt_or_ge j k with c | c
      · exact h1 j c
      · obtain rfl : j = k := by omega
        exact h2
    · intro h
      exact ⟨fun j hj => h j (by omega), h k (by omega)⟩
def btN (x : UInt8) (j : Nat) : Nat := x.toNat / 2 ^ (7 - j) % 2
def pfB (x : UInt8) (k : Nat) : UInt8 := UInt8.ofNat (x.toNat / 2 ^ (8 - k) * 2 ^ (8 - k))
theorem pfB_nat (x : UInt8) (k : Nat) : (pfB x k).toNat = x.toNat / 2 ^ (8 - k) * 2 ^ (8 - k) := by
  have h := Nat.div_mul_le_self x.toNat (2 ^ (8 - k))
  have h2 := x.toNat_lt
  unfold pfB
  rw [UInt8.toNat_ofNat']
  exact Nat.mod_eq_of_lt (by omega)
theorem pfB_iff (x y : UInt8) (k : Nat) (hk : k ≤ 8) : pfB x k = pfB y k ↔ ∀ j, j < k → btN x j = btN y j := by
  rw [← UInt8.toNat_inj, pfB_nat, pfB_nat]
  have hp : 0 < 2 ^ (8 - k) := Nat.two_pow_pos _
  rw [Nat.mul_right_cancel_iff hp]
  exact hi_iff x.toNat y.toNat x.toNat_lt y.toNat_lt k hk
theorem pfB_idem (x : UInt8) (k : Nat) : pfB (pfB x k) k = pfB x k := by
  rw [← UInt8.toNat_inj, pfB_nat, pfB_nat, Nat.mul_div_cancel _ (Nat.two_pow_pos _)]
theorem pfB_8 (x : UInt8) : pfB x 8 = x := by
  rw [← UInt8.toNat_inj, pfB_nat]
  simp
theorem pfB_0 (k : Nat) : pfB 0 k = 0 := by
  rw [← UInt8.toNat_inj, pfB_nat]
  simp
def kpN (n : Int) (i : Nat) : Nat := (min (max (min (max n 0) 128 - 8 * i) 0) 8).toNat
/-- the first n bits of an address -/
def pfL (a : List UInt8) (n : Int) : List UInt8 := (List.range 16).map fun i => pfB (a.getD i 0) (kpN n i)
def btT (a : List UInt8) (t : Nat) : Nat := btN (a.getD (t / 8) 0) (t % 8)
theorem pf_iff (a b : List UInt8) (n : Int) : pfL a n = pfL b n ↔ ∀ t : Nat, t < 128 → (t : Int) < n → btT a t = btT b t := by
  unfold pfL
  rw [List.map_inj_left]
  constructor
  · intro h t h1 h2
    have := h (t / 8) (List.mem_range.mpr (by omega))
    rw [pfB_iff _ _ _ (by unfold kpN; omega)] at this
    exact this (t % 8) (by unfold kpN; omega)
  · intro h i hi
    have hi := List.mem_range.mp hi
    rw [pfB_iff _ _ _ (by unfold kpN; omega)]
    intro j hj
    have hj8 : j < 8 ∧ ((8 * i + j : Nat) : Int) < n := by unfold kpN at hj; omega
    have := h (8 * i + j) (by omega) hj8.2
    unfold btT at this
    rwa [show (8 * i + j) / 8 = i by omega, show (8 * i + j) % 8 = j by omega] at this
theorem pfL_at (a : List UInt8) (n : Int) (i : Nat) (h : i < 16) : (pfL a n).getD i 0 = pfB (a.getD i 0) (kpN n i) := by
  unfold pfL
  rw [List.getD_eq_getElem?_getD, List.getElem?_map, List.getElem?_range h]
  rfl
theorem pf_idem (a : List UInt8) (n : Int) : pfL (pfL a n) n = pfL a n := by
  show (List.range 16).map (fun i => pfB ((pfL a n).getD i 0) (kpN n i)) = (List.range 16).map fun i => pfB (a.getD i 0) (kpN n i)
  rw [List.map_inj_left]
  intro i hi
  rw [pfL_at _ _ _ (List.mem_range.mp hi), pfB_idem]
theorem pf_128 (a : List UInt8) (h : a.length = 16) : pfL a 128 = a := by
  obtain ⟨a0, a1, a2, a3, a4, a5, a6, a7, a8, a9, a10, a11, a12, a13, a14, a15, rfl⟩ := list16 h
  have e : ∀ i, i < 16 → kpN 128 i = 8 := by intro i hi; unfold kpN; omega
  have : ∀ l : List UInt8, pfL l 128 = (List.range 16).map fun i => l.getD i 0 := by
    intro l
    unfold pfL
    rw [List.map_inj_left]
    intro i hi
    rw [e i (List.mem_range.mp hi), pfB_8]
  rw [this]
  rfl
theorem pfL_len (a : List UInt8) (n : Int) : (pfL a n).length = 16 := by simp [pfL]
theorem pf_zero (n : Int) : pfL (List.replicate 16 0) n = List.replicate 16 0 := by
  unfold pfL
  rw [show (List.replicate 16 (0 : UInt8)) = (List.range 16).map fun _ => 0 by rfl, List.map_inj_left]
  intro i hi
  have hi := List.mem_range.mp hi
  have e : ((List.range 16).map fun _ => (0 : UInt8)).getD i 0 = 0 := by
    rw [List.getD_eq_getElem?_getD, List.getElem?_map, List.getElem?_range hi]
    rfl
  rw [e, pfB_0]
/-- are the bits from one place on the same? -/
def inF (a b : List UInt8) (n : Int) : Nat → Nat → Bool
  | 0, _ => true
  | k + 1, i => if (i : Int) < n then (if btT a i = btT b i then inF a b n k (i + 1) else false) else true
theorem inF_iff (a b : List UInt8) (n : Int) : ∀ k i, inF a b n k i = true ↔ ∀ t : Nat, i ≤ t → t < i + k → (t : Int) < n → btT a t = btT b t
  | 0, i => ⟨fun _ t h1 h2 => by omega, fun _ => rfl⟩
  | k + 1, i => by
    have ih := inF_iff a b n k (i + 1)
    unfold inF
    by_cases c : (i : Int) < n
    · rw [if_pos c]
      by_cases d : btT a i = btT b i
      · rw [if_pos d, ih]
        constructor
        · intro h t h1 h2 h3
          rcases Nat.eq_or_lt_of_le h1 with e | e
          · subst e; exact d
          · exact h t (by omega) (by omega) h3
        · intro h t h1 h2 h3
          exact h t (by omega) (by omega) h3
      · rw [if_neg d]
        constructor
        · intro h; cases h
        · intro h; exact absurd (h i (Nat.le_refl _) (by omega) c) d
    · rw [if_neg c]
      constructor
      · intro _ t h1 h2 h3; omega
      · intro _; rfl
def rIn (a b : List UInt8) (n : Int) : Bool := inF a b n 128 0
theorem rIn_iff (a b : List UInt8) (n : Int) : rIn a b n = true ↔ pfL a n = pfL b n := by
  unfold rIn
  rw [inF_iff, pf_iff]
  constructor
  · intro h t h1 h2
    exact h t (Nat.zero_le _) (by omega) h2
  · intro h t _ h1 h2
    exact h t (by omega) h2
theorem rIn_eq (a b : List UInt8) (n : Int) : rIn a b n = (pfL a n == pfL b n) := by
  rw [Bool.eq_iff_iff, rIn_iff, beq_iff_eq]
end Go.Proofs.YtbgfpemjdomanaaDoor

namespace Go.Proofs.YtbgfpemjdomanaaDoor
open Go Go.Am Go.RowKit Go.Mix Go.Bas
set_option maxRecDepth 100000
noncomputable def af_adBit : AF := afOf Tryd.prog Tryd.f29 []
theorem af_adBit_ok : AllOk Tryd.prog 29 af_adBit := .flat Tryd.func29 (by kernel_rfl) (by kernel_rfl) (by kernel_rfl) (by kernel_rfl) (by kernel_rfl)
noncomputable def GEadp0 : List (Nat × Con) := []
theorem GEadp0_ok : GOk Tryd.prog GEadp0 := .nil
noncomputable def IEadp0 : List (Nat × AF) := []
theorem IEadp0_ok : IOk Tryd.prog IEadp0 := .nil
noncomputable def CEadp0 : List (Nat × (List Nat × (S → Option (Bool × Tr)))) := []
theorem CEadp0_ok : COk Tryd.prog CEadp0 := .nil
noncomputable def XEadp0 : List (Nat × (List Sh × (List V → PT))) := []
theorem XEadp0_ok : XOk Tryd.prog XEadp0 := .nil
noncomputable def Eadp0 : Env := ⟨Tryd.prog, GEadp0, IEadp0, CEadp0, XEadp0⟩
theorem Eadp0_ok : EnvOk Eadp0 := ⟨by kernel_rfl, GEadp0_ok, IEadp0_ok, CEadp0_ok, XEadp0_ok⟩
theorem adBit_t (a : List UInt8) (i : Int) : callV Eadp0 af_adBit [.barr 16 a, .int .i64 i] =
 bif
 andT (andT true (inB (IntKind.i64.wrap (i.tdiv (8 : Int))) (16 : Nat)))
 (decide ((0 : Int) ≤ IntKind.u64.wrap (IntKind.i64.wrap ((7 : Int) - i.tmod (8 : Int))))) then
 some
 (V.bool
 (((gt a (IntKind.i64.wrap (i.tdiv (8 : Int))).toNat).fdiv
 ((2 : Int) ^
 min (IntKind.u64.wrap (IntKind.i64.wrap ((7 : Int) - i.tmod (8 : Int)))).toNat (8 : Nat))).tmod
 (2 : Int) ==
 (1 : Int)))
 else none := by kernel_rfl

theorem bit_sh {i : Int} (h0 : 0 ≤ i) (h1 : i < 128) : (7 : Int) - i.tmod 8 = ((7 - i.toNat % 8 : Nat) : Int) := by
  rw [Int.tmod_eq_emod_of_nonneg h0]; omega
theorem adBit_v (a : List UInt8) (i : Int) (h0 : 0 ≤ i) (h1 : i < 128) : callV Eadp0 af_adBit [.barr 16 a, .int .i64 i] = some (.bool (btT a i.toNat == 1)) := by
  have e1 : IntKind.i64.wrap (i.tdiv (8 : Int)) = ((i.toNat / 8 : Nat) : Int) := by
    rw [Int.tdiv_eq_ediv_of_nonneg h0, w64 (by omega) (by omega)]; omega
  have e2 : IntKind.u64.wrap (IntKind.i64.wrap ((7 : Int) - i.tmod (8 : Int))) = ((7 - i.toNat % 8 : Nat) : Int) := by
    rw [bit_sh h0 h1, w64 (by omega) (by omega), wu64 (by omega) (by omega)]
  rw [adBit_t, e1, e2, dec_t (by omega), show inB ((i.toNat / 8 : Nat) : Int) 16 = true from inB_t (by omega) (by omega)]
  show some (V.bool _) = _
  congr 2
  have hm : min (((7 - i.toNat % 8 : Nat) : Int)).toNat 8 = 7 - i.toNat % 8 := by omega
  rw [hm]
  unfold btT btN gt
  rw [Int.toNat_natCast]
  generalize (a.getD (i.toNat / 8) 0).toNat = x
  generalize 7 - i.toNat % 8 = m
  have e4 : (x : Int) / (2 : Int) ^ m = ((x / 2 ^ m : Nat) : Int) := by push_cast; rfl
  have e3 : ((x : Int).fdiv ((2 : Int) ^ m)).tmod 2 = ((x / 2 ^ m % 2 : Nat) : Int) := by
    rw [Int.fdiv_eq_ediv_of_nonneg _ (by exact_mod_cast Nat.zero_le _), e4, Int.tmod_eq_emod_of_nonneg (Int.natCast_nonneg _)]
    omega
  rw [e3, Bool.eq_iff_iff, beq_iff_eq, beq_iff_eq]
  omega
def cAdBit : List V → Option (V × Bool)
  | [.barr 16 a, .int .i64 i] => some (.bool (btT a i.toNat == 1), decide (0 ≤ i ∧ i < 128))
  | _ => none
theorem adBit_con : ∀ vs v, cAdBit vs = some (v, true) → SpecV Tryd.prog 29 vs v := by
  intro vs v h; unfold cAdBit at h; split at h
  · rename_i a i
    injection h with h; injection h with h hb; subst h
    exact callV_ok Eadp0_ok af_adBit_ok ((by obtain ⟨h0, h1⟩ := of_decide_eq_true hb; exact adBit_v _ _ h0 h1))
  · cases h
/-! ### the document's In -/
noncomputable def GEadin : List (Nat × Con) := [(29, .val [.barr 16, .int .i64] cAdBit)]
theorem GEadin_ok : GOk Tryd.prog GEadin := .cons (enters_of Tryd.func29 (by kernel_rfl) rfl) adBit_con <| .nil
noncomputable def IEadin : List (Nat × AF) := []
theorem IEadin_ok : IOk Tryd.prog IEadin := .nil
noncomputable def CEadin : List (Nat × (List Nat × (S → Option (Bool × Tr)))) := []
theorem CEadin_ok : COk Tryd.prog CEadin := .nil
noncomputable def XEadin : List (Nat × (List Sh × (List V → PT))) := []
theorem XEadin_ok : XOk Tryd.prog XEadin := .nil
noncomputable def Eadin : Env := ⟨Tryd.prog, GEadin, IEadin, CEadin, XEadin⟩
theorem Eadin_ok : EnvOk Eadin := ⟨by kernel_rfl, GEadin_ok, IEadin_ok, CEadin_ok, XEadin_ok⟩
structure InI where
  (a b : List UInt8)
  (n i : Int)
def inS (a b : List UInt8) (n i : Int) : S := ⟨[(2, .int .i64 n), (3, .ref 0 [] 0 (.barr 16)), (4, .ref 1 [] 0 (.barr 16)), (7, .int .i64 i)], lsW a b, 2, true, 24⟩
def inX : S := ⟨[], [], 0, true, 24⟩
def inR : S := ⟨[(6, .bool false)], [], 0, true, 24⟩
def inGet (s : S) : InI := ⟨toA (bkD s 0), toA (bkD s 1), toI (lkD s 2), toI (lkD s 7)⟩
def inI (x : InI) : Prop := 0 ≤ x.i ∧ x.i ≤ 128
def inO (x : InI) : Tr := .br (inF x.a x.b x.n (128 - x.i).toNat x.i.toNat) (.leaf (.exit 0) inX) (.leaf .ret inR)
noncomputable def inG : S → Option (Bool × Tr) := gX inGet (fun x => inS x.a x.b x.n x.i) inI inO
noncomputable def af_rAdIn : AF := afOf Tryd.prog Tryd.f18 [.sum [2, 3, 4, 7] [] inG]
noncomputable def inC : AC := (af_rAdIn.ac.sums.headD (.skip, [], [], fun _ => none)).1
theorem in_b (a b : List UInt8) (n i : Int) : aev Eadin (inlN Eadin 6) inC (bodyF (Am.ways [2, 3, 4, 7] [] [6]) []) (inS a b n i) =
 bif decide (i < n) then
 bif decide (i < (128 : Int)) then
 bif
 andT (andT true (decide ((0 : Int) ≤ i ∧ i < (128 : Int)))) (decide ((0 : Int) ≤ i ∧ i < (128 : Int))) &&
 true then
 bif !(btT a i.toNat == (1 : Nat)) == (btT b i.toNat == (1 : Nat)) then some (Ex.ret, inR)
 else some (Ex.normal, inS a b n (IntKind.i64.wrap (i + (1 : Int))))
 else none
 else some (Ex.exit (0 : Nat), inX)
 else some (Ex.exit (0 : Nat), inX) := by kernel_rfl

theorem btT_lt (a : List UInt8) (t : Nat) : btT a t < 2 := by unfold btT btN; omega
theorem in_loop : LoopOk Tryd.prog inC.erase [] inG := by
  refine loopX_ok Eadin_ok (d := 6) (AC.flat_ok (by kernel_rfl)) (Am.ways [2, 3, 4, 7] [] [6]) [] inGet _ inO inI (fun x => (128 - x.i).toNat) (fun _ => rfl) ?_
  rintro ⟨a, b, n, i⟩ ⟨h0, h1⟩
  simp only at h0 h1 ⊢
  rw [in_b]
  by_cases hn : i < n
  · by_cases hi : i < 128
    · have hk : (128 - i).toNat = (128 - (i + 1)).toNat + 1 := by omega
      have ht : (i + 1).toNat = i.toNat + 1 := by omega
      have hc : ((i.toNat : Nat) : Int) < n := by omega
      rw [dec_t hn, dec_t hi, dec_t (show (0 : Int) ≤ i ∧ i < 128 from ⟨h0, hi⟩)]
      by_cases he : btT a i.toNat = btT b i.toNat
      · have hbe : (!(btT a i.toNat == 1) == (btT b i.toNat == 1)) = false := by rw [he]; simp
        refine .inl ⟨⟨a, b, n, i + 1⟩, ?_, ⟨by dsimp only; omega, by dsimp only; omega⟩, by dsimp only; omega, leaf_eq ?_⟩
        · rw [hbe, w64 (by omega) (by omega)]
          rfl
        · have e : inF a b n ((128 - (i + 1)).toNat + 1) i.toNat = inF a b n (128 - (i + 1)).toNat (i.toNat + 1) := by
            show (if ((i.toNat : Nat) : Int) < n then _ else _) = _
            rw [if_pos hc, if_pos he]
          unfold inO
          dsimp only
          rw [hk, ht, e]
      · have hbe : (!(btT a i.toNat == 1) == (btT b i.toNat == 1)) = true := by
          have l1 := btT_lt a i.toNat
          have l2 := btT_lt b i.toNat
          rcases (by omega : (btT a i.toNat = 0 ∧ btT b i.toNat = 1) ∨ (btT a i.toNat = 1 ∧ btT b i.toNat = 0)) with ⟨e1, e2⟩ | ⟨e1, e2⟩ <;> rw [e1, e2] <;> rfl
        refine .inr ⟨.ret, inR, ?_, nofun, ?_⟩
        · rw [hbe]
          rfl
        · unfold inO
          dsimp only
          rw [hk]
          refine leaf_f ?_ .leaf
          show (if ((i.toNat : Nat) : Int) < n then _ else _) = _
          rw [if_pos hc, if_neg he]
    · refine .inr ⟨.exit 0, inX, ?_, nofun, ?_⟩
      · rw [dec_t hn, dec_f hi]
        rfl
      · unfold inO
        dsimp only
        rw [show (128 - i).toNat = 0 by omega]
        exact leaf_t rfl .leaf
  · refine .inr ⟨.exit 0, inX, ?_, nofun, ?_⟩
    · rw [dec_f hn]
      rfl
    · unfold inO
      dsimp only
      refine leaf_t ?_ .leaf
      rw [inF_iff]
      intro t h1 h2 h3
      omega
theorem af_rAdIn_ok : AllOk Tryd.prog 18 af_rAdIn := .sums Tryd.func18 (by kernel_rfl) (by kernel_rfl) (by kernel_rfl) (by kernel_rfl) (sums_one (c := inC) (ts := [2, 3, 4, 7]) (by kernel_rfl) (by kernel_rfl) in_loop)
theorem rAdIn_t (a b : List UInt8) (n : Int) : callV Eadin af_rAdIn [.barr 16 a, .barr 16 b, .int .i64 n] =
 bif okG (inS a b n (0 : Int) = inS a b n (0 : Int) ∧ inI { a := a, b := b, n := n, i := (0 : Int) }) then
 bif inF a b n (128 : Nat) (0 : Nat) then some (V.bool true) else some (V.bool false)
 else none := by kernel_rfl

theorem rAdIn_v (a b : List UInt8) (n : Int) : callV Eadin af_rAdIn [.barr 16 a, .barr 16 b, .int .i64 n] = some (.bool (rIn a b n)) := by
  rw [rAdIn_t, okG_t ⟨rfl, Int.le_refl _, by dsimp only; omega⟩]
  show (bif rIn a b n then some (V.bool true) else some (V.bool false)) = _
  cases rIn a b n <;> rfl
def cRAdIn : List V → Option (V × Bool)
  | [.barr 16 a, .barr 16 b, .int .i64 n] => some (.bool (rIn a b n), true)
  | _ => none
theorem rAdIn_con : ∀ vs v, cRAdIn vs = some (v, true) → SpecV Tryd.prog 18 vs v := by
  intro vs v h; unfold cRAdIn at h; split at h
  · rename_i a b n
    injection h with h; injection h with h hb; subst h
    exact callV_ok Eadin_ok af_rAdIn_ok (rAdIn_v _ _ _)
  · cases h
/-! ### Prefix -/
structure PsI where
  (a : List UInt8)
  (n i : Int)
def psW (a : List UInt8) : List (Nat × Option Blk) := [(0, some (.var (.barr 16) (.barr 16 a))), (1, some (.var (.barr 16) (.barr 16 (List.replicate 16 0))))]
def psS (a : List UInt8) (n i : Int) : S := ⟨[(1, .int .i64 n), (2, .ref 0 [] 0 (.barr 16)), (4, .ref 1 [] 0 (.barr 16)), (10, .int .i64 i)], psW a, 2, true, 28⟩
def psX (a : List UInt8) : S := ⟨[(2, .ref 0 [] 0 (.barr 16)), (4, .ref 1 [] 0 (.barr 16))], psW a, 2, true, 28⟩
def psGet (s : S) : PsI := ⟨toA (bkD s 0), toI (lkD s 1), toI (lkD s 10)⟩
def psI (x : PsI) : Prop := 0 ≤ x.i ∧ x.i ≤ 16 ∧ 0 ≤ x.n ∧ x.n ≤ 128 ∧ x.a.length = 16
def psF (n : Int) : Nat → Nat → List UInt8 → List UInt8
  | 0, _, a => a
  | k + 1, i, a => psF n k (i + 1) (a.set i (pfB (a.getD i 0) (kpN n i)))
def psO (x : PsI) : Tr := .leaf (.exit 0) (psX (psF x.n (16 - x.i).toNat x.i.toNat x.a))
noncomputable def psG : S → Option (Bool × Tr) := gX psGet (fun x => psS x.a x.n x.i) psI psO
noncomputable def af_adPrefix : AF := afOf Tryd.prog Tryd.f16 [.sum [1, 2, 4, 10] [] psG]
noncomputable def psC : AC := (af_adPrefix.ac.sums.headD (.skip, [], [], fun _ => none)).1
theorem ps_b (a : List UInt8) (n i : Int) : aev Eadp0 (inlN Eadp0 6) psC (bodyF (Am.ways [1, 2, 4, 10] [2, 4] []) []) (psS a n i) =
 bif decide (i < (16 : Int)) then
 bif
 andT
 (andT (andT true (inB i (16 : Nat)))
 (decide
 ((0 : Int) ≤
 if
 (8 : Int) <
 if (0 : Int) > IntKind.i64.wrap (n - IntKind.i64.wrap ((8 : Int) * i)) then (0 : Int)
 else IntKind.i64.wrap (n - IntKind.i64.wrap ((8 : Int) * i)) then
 (8 : Int)
 else
 if (0 : Int) > IntKind.i64.wrap (n - IntKind.i64.wrap ((8 : Int) * i)) then (0 : Int)
 else IntKind.i64.wrap (n - IntKind.i64.wrap ((8 : Int) * i)))))
 (inB i (16 : Nat)) &&
 true then
 some
 (Ex.normal,
 psS
 (a.set i.toNat
 (u8
 (bits BinOp.andNot IntKind.u8 (gt a i.toNat)
 (Int.fdiv (255 : Int)
 ((2 : Int) ^
 min
 (if
 (8 : Int) <
 if (0 : Int) > IntKind.i64.wrap (n - IntKind.i64.wrap ((8 : Int) * i)) then (0 : Int)
 else IntKind.i64.wrap (n - IntKind.i64.wrap ((8 : Int) * i)) then
 (8 : Int)
 else
 if (0 : Int) > IntKind.i64.wrap (n - IntKind.i64.wrap ((8 : Int) * i)) then (0 : Int)
 else IntKind.i64.wrap (n - IntKind.i64.wrap ((8 : Int) * i))).toNat
 (8 : Nat))))))
 n (IntKind.i64.wrap (i + (1 : Int))))
 else none
 else some (Ex.exit (0 : Nat), psX a) := by kernel_rfl

theorem andn_byte : ∀ x : Fin 256, ∀ k : Fin 9, u8 (bits .andNot .u8 ((x.val : Nat) : Int) (Int.fdiv 255 (2 ^ min (((k.val : Nat) : Int)).toNat 8))) = UInt8.ofNat (x.val / 2 ^ (8 - k.val) * 2 ^ (8 - k.val)) := by decide +kernel
theorem kp_le (n : Int) (i : Nat) : kpN n i ≤ 8 := by unfold kpN; omega
theorem ps_byte (a : List UInt8) (i k : Nat) (h : k ≤ 8) : u8 (bits .andNot .u8 (gt a i) (Int.fdiv 255 (2 ^ min (((k : Nat) : Int)).toNat 8))) = pfB (a.getD i 0) k :=
  andn_byte ⟨(a.getD i 0).toNat, (a.getD i 0).toNat_lt⟩ ⟨k, by omega⟩
theorem ps_loop : LoopOk Tryd.prog psC.erase [] psG := by
  refine loopX_ok Eadp0_ok (d := 6) (AC.flat_ok (by kernel_rfl)) (Am.ways [1, 2, 4, 10] [2, 4] []) [] psGet _ psO psI (fun x => (16 - x.i).toNat) (fun _ => rfl) ?_
  rintro ⟨a, n, i⟩ ⟨h0, h1, h2, h3, ha⟩
  simp only at h0 h1 h2 h3 ha ⊢
  rw [ps_b]
  by_cases hi : i < 16
  · have hk : (16 - i).toNat = (16 - (i + 1)).toNat + 1 := by omega
    have ht : (i + 1).toNat = i.toNat + 1 := by omega
    have hd : IntKind.i64.wrap (n - IntKind.i64.wrap ((8 : Int) * i)) = n - 8 * i := by
      rw [w64 (x := 8 * i) (by omega) (by omega), w64 (by omega) (by omega)]
    have hK : (if (8 : Int) < (if (0 : Int) > n - 8 * i then (0 : Int) else n - 8 * i) then (8 : Int) else if (0 : Int) > n - 8 * i then (0 : Int) else n - 8 * i) = ((kpN n i.toNat : Nat) : Int) := by
      unfold kpN
      (repeat' split) <;> omega
    refine .inl ⟨⟨a.set i.toNat (pfB (a.getD i.toNat 0) (kpN n i.toNat)), n, i + 1⟩, ?_, ⟨by dsimp only; omega, by dsimp only; omega, h2, h3, by simpa using ha⟩, by dsimp only; omega, leaf_eq ?_⟩
    · rw [hd, hK, ps_byte _ _ _ (kp_le _ _), dec_t hi, inB_t h0 (by omega), dec_t (Int.natCast_nonneg _), w64 (by omega) (by omega)]
      rfl
    · unfold psO
      dsimp only
      rw [hk, ht]
      rfl
  · refine .inr ⟨.exit 0, psX a, ?_, nofun, ?_⟩
    · rw [dec_f hi]
      rfl
    · unfold psO
      dsimp only
      rw [show (16 - i).toNat = 0 by omega]
      exact .leaf
theorem af_adPrefix_ok : AllOk Tryd.prog 16 af_adPrefix := .sums Tryd.func16 (by kernel_rfl) (by kernel_rfl) (by kernel_rfl) (by kernel_rfl) (sums_one (c := psC) (ts := [1, 2, 4, 10]) (by kernel_rfl) (by kernel_rfl) ps_loop)
theorem adPrefix_t (a : List UInt8) (n : Int) : callV Eadp0 af_adPrefix [.barr 16 a, .int .i64 n] =
 bif
 okG
 (psS a
 (if (128 : Int) < if (0 : Int) > n then (0 : Int) else n then (128 : Int)
 else if (0 : Int) > n then (0 : Int) else n)
 (0 : Int) =
 psS a
 (Decidable.rec
 (fun (h : ¬(128 : Int) < if (0 : Int) > n then (0 : Int) else n) =>
 (fun (x : ¬(128 : Int) < if (0 : Int) > n then (0 : Int) else n) =>
 if (0 : Int) > n then (0 : Int) else n)
 h)
 (fun (h : (128 : Int) < if (0 : Int) > n then (0 : Int) else n) =>
 (fun (x : (128 : Int) < if (0 : Int) > n then (0 : Int) else n) => (128 : Int)) h)
 (Int.decLt (128 : Int) (if (0 : Int) > n then (0 : Int) else n)))
 (0 : Int) ∧
 psI
 { a := a, n := Decidable.rec (fun (h : ¬(128 : Int) < if (0 : Int) > n then (0 : Int) else n) => (fun (x : ¬(128 : Int) < if (0 : Int) > n then (0 : Int) else n) => if (0 : Int) > n then (0 : Int) else n) h) (fun (h : (128 : Int) < if (0 : Int) > n then (0 : Int) else n) => (fun (x : (128 : Int) < if (0 : Int) > n then (0 : Int) else n) => (128 : Int)) h) (Int.decLt (128 : Int) (if (0 : Int) > n then (0 : Int) else n)), i := (0 : Int) }) then
 some
 (V.barr (16 : Nat)
 (psF
 (Decidable.rec
 (fun (h : ¬(128 : Int) < if (0 : Int) > n then (0 : Int) else n) =>
 (fun (x : ¬(128 : Int) < if (0 : Int) > n then (0 : Int) else n) =>
 if (0 : Int) > n then (0 : Int) else n)
 h)
 (fun (h : (128 : Int) < if (0 : Int) > n then (0 : Int) else n) =>
 (fun (x : (128 : Int) < if (0 : Int) > n then (0 : Int) else n) => (128 : Int)) h)
 (Int.decLt (128 : Int) (if (0 : Int) > n then (0 : Int) else n)))
 (16 : Nat) (0 : Nat) a))
 else none := by kernel_rfl

def clN (n : Int) : Int := if (128 : Int) < (if (0 : Int) > n then (0 : Int) else n) then (128 : Int) else if (0 : Int) > n then (0 : Int) else n
theorem cl_lo (n : Int) : 0 ≤ clN n := by unfold clN; (repeat' split) <;> omega
theorem cl_hi (n : Int) : clN n ≤ 128 := by unfold clN; (repeat' split) <;> omega
theorem kp_cl (n : Int) (i : Nat) : kpN (clN n) i = kpN n i := by
  have e : min (max (clN n) 0) 128 = min (max n 0) 128 := by unfold clN; (repeat' split) <;> omega
  unfold kpN
  rw [e]
theorem pf_cl (a : List UInt8) (n : Int) : pfL a (clN n) = pfL a n := by unfold pfL; simp only [kp_cl]
theorem psF_all (a : List UInt8) (n : Int) (h : a.length = 16) : psF n 16 0 a = pfL a n := by
  obtain ⟨a0, a1, a2, a3, a4, a5, a6, a7, a8, a9, a10, a11, a12, a13, a14, a15, rfl⟩ := list16 h
  kernel_rfl
theorem adPrefix_v (a : List UInt8) (n : Int) (h : a.length = 16) : callV Eadp0 af_adPrefix [.barr 16 a, .int .i64 n] = some (.barr 16 (pfL a n)) := by
  rw [adPrefix_t, okG_t]
  · show some (V.barr 16 (psF (clN n) 16 0 a)) = _
    rw [psF_all _ _ h, pf_cl]
  · exact ⟨rfl, Int.le_refl _, by dsimp only; omega, cl_lo n, cl_hi n, h⟩
def cAdPrefix : List V → Option (V × Bool)
  | [.barr 16 a, .int .i64 n] => some (.barr 16 (pfL a n), decide (a.length = 16))
  | _ => none
theorem adPrefix_con : ∀ vs v, cAdPrefix vs = some (v, true) → SpecV Tryd.prog 16 vs v := by
  intro vs v h; unfold cAdPrefix at h; split at h
  · rename_i a n
    injection h with h; injection h with h hb; subst h
    exact callV_ok Eadp0_ok af_adPrefix_ok (adPrefix_v _ _ (of_decide_eq_true hb))
  · cases h
noncomputable def af_adIn : AF := afOf Tryd.prog Tryd.f17 []
theorem af_adIn_ok : AllOk Tryd.prog 17 af_adIn := .flat Tryd.func17 (by kernel_rfl) (by kernel_rfl) (by kernel_rfl) (by kernel_rfl) (by kernel_rfl)
noncomputable def GEadi2 : List (Nat × Con) := [(16, .val [.barr 16, .int .i64] cAdPrefix)]
theorem GEadi2_ok : GOk Tryd.prog GEadi2 := .cons (enters_of Tryd.func16 (by kernel_rfl) rfl) adPrefix_con <| .nil
noncomputable def IEadi2 : List (Nat × AF) := []
theorem IEadi2_ok : IOk Tryd.prog IEadi2 := .nil
noncomputable def CEadi2 : List (Nat × (List Nat × (S → Option (Bool × Tr)))) := []
theorem CEadi2_ok : COk Tryd.prog CEadi2 := .nil
noncomputable def XEadi2 : List (Nat × (List Sh × (List V → PT))) := []
theorem XEadi2_ok : XOk Tryd.prog XEadi2 := .nil
noncomputable def Eadi2 : Env := ⟨Tryd.prog, GEadi2, IEadi2, CEadi2, XEadi2⟩
theorem Eadi2_ok : EnvOk Eadi2 := ⟨by kernel_rfl, GEadi2_ok, IEadi2_ok, CEadi2_ok, XEadi2_ok⟩
theorem adIn_t (a b : List UInt8) (n : Int) : callV Eadi2 af_adIn [.barr 16 a, .barr 16 b, .int .i64 n] =
 bif andT (andT true (decide (a.length = (16 : Nat)))) (decide (b.length = (16 : Nat))) && true then
 some (V.bool (pfL a n == pfL b n))
 else none := by kernel_rfl

theorem adIn_v (a b : List UInt8) (n : Int) (h1 : a.length = 16) (h2 : b.length = 16) : callV Eadi2 af_adIn [.barr 16 a, .barr 16 b, .int .i64 n] = some (.bool (rIn a b n)) := by
  rw [adIn_t, dec_t h1, dec_t h2, rIn_eq]
  cases (pfL a n == pfL b n) <;> rfl
def cAdIn : List V → Option (V × Bool)
  | [.barr 16 a, .barr 16 b, .int .i64 n] => some (.bool (rIn a b n), decide (a.length = 16 ∧ b.length = 16))
  | _ => none
theorem adIn_con : ∀ vs v, cAdIn vs = some (v, true) → SpecV Tryd.prog 17 vs v := by
  intro vs v h; unfold cAdIn at h; split at h
  · rename_i a b n
    injection h with h; injection h with h hb; subst h
    exact callV_ok Eadi2_ok af_adIn_ok ((by obtain ⟨h0, h1⟩ := of_decide_eq_true hb; exact adIn_v _ _ _ h0 h1))
  · cases h
noncomputable def af_AddrNets : AF := afOf Tryd.prog Tryd.f6 []
theorem af_AddrNets_ok : AllOk Tryd.prog 6 af_AddrNets := .flat Tryd.func6 (by kernel_rfl) (by kernel_rfl) (by kernel_rfl) (by kernel_rfl) (by kernel_rfl)
noncomputable def GEadnt : List (Nat × Con) := [(16, .val [.barr 16, .int .i64] cAdPrefix), (18, .val [.barr 16, .barr 16, .int .i64] cRAdIn), (19, .val [.barr 16, .barr 16] cAdLess), (20, .val [.barr 16, .barr 16] cAdLess), (7, .val [] cTru), (17, .val [.barr 16, .barr 16, .int .i64] cAdIn)]
theorem GEadnt_ok : GOk Tryd.prog GEadnt := .cons (enters_of Tryd.func16 (by kernel_rfl) rfl) adPrefix_con <| .cons (enters_of Tryd.func18 (by kernel_rfl) rfl) rAdIn_con <| .cons (enters_of Tryd.func19 (by kernel_rfl) rfl) adLess_con <| .cons (enters_of Tryd.func20 (by kernel_rfl) rfl) rAdLess_con <| .cons (enters_of Tryd.func7 (by kernel_rfl) rfl) lives03_con <| .cons (enters_of Tryd.func17 (by kernel_rfl) rfl) adIn_con <| .nil
noncomputable def IEadnt : List (Nat × AF) := []
theorem IEadnt_ok : IOk Tryd.prog IEadnt := .nil
noncomputable def CEadnt : List (Nat × (List Nat × (S → Option (Bool × Tr)))) := []
theorem CEadnt_ok : COk Tryd.prog CEadnt := .nil
noncomputable def XEadnt : List (Nat × (List Sh × (List V → PT))) := []
theorem XEadnt_ok : XOk Tryd.prog XEadnt := .nil
noncomputable def Eadnt : Env := ⟨Tryd.prog, GEadnt, IEadnt, CEadnt, XEadnt⟩
theorem Eadnt_ok : EnvOk Eadnt := ⟨by kernel_rfl, GEadnt_ok, IEadnt_ok, CEadnt_ok, XEadnt_ok⟩
def sh_AddrNets : List Sh := [.barr 16, .barr 16, .int .i64]
theorem AddrNets_t (a : List UInt8) (b : List UInt8) (n : Int) : callV Eadnt af_AddrNets [.barr 16 a, .barr 16 b, .int .i64 n] =
 bif andT true (decide (a.length = (16 : Nat))) then
 bif rIn a b n == rIn a b n then
 bif rIn (pfL a n) a n then
 bif
 rIn (pfL a n) (List.replicate (16 : Nat) (0 : UInt8)) (128 : Int) ==
 rIn a (List.replicate (16 : Nat) (0 : UInt8)) n then
 bif pfL (pfL a n) n == pfL a n then
 bif lessL a b == lessL a b then
 bif
 andT
 (andT (andT true (decide (a.length = (16 : Nat) ∧ b.length = (16 : Nat))))
 (decide (a.length = (16 : Nat) ∧ b.length = (16 : Nat))))
 (decide (a.length = (16 : Nat) ∧ b.length = (16 : Nat))) &&
 true then
 some (V.bool true)
 else none
 else
 bif
 andT
 (andT (andT true (decide (a.length = (16 : Nat) ∧ b.length = (16 : Nat))))
 (decide (a.length = (16 : Nat) ∧ b.length = (16 : Nat))))
 (decide (a.length = (16 : Nat) ∧ b.length = (16 : Nat))) &&
 true then
 some (V.bool false)
 else none
 else
 bif andT true (decide (a.length = (16 : Nat) ∧ b.length = (16 : Nat))) && true then some (V.bool false)
 else none
 else
 bif andT true (decide (a.length = (16 : Nat) ∧ b.length = (16 : Nat))) && true then some (V.bool false)
 else none
 else
 bif andT true (decide (a.length = (16 : Nat) ∧ b.length = (16 : Nat))) && true then some (V.bool false)
 else none
 else
 bif andT true (decide (a.length = (16 : Nat) ∧ b.length = (16 : Nat))) && true then some (V.bool false) else none
 else none := by kernel_rfl

theorem AddrNets_v : ∀ xs, inRs 140737488351232 sh_AddrNets xs = true → callV Eadnt af_AddrNets xs = some (.bool true) := by
  intro xs h
  obtain ⟨zx1, zl1, rfl, zh1, zr1⟩ := inRs_cons h; clear h
  obtain ⟨a, rfl, ha⟩ := inR_barr zh1; clear zh1
  obtain ⟨zx2, zl2, rfl, zh2, zr2⟩ := inRs_cons zr1; clear zr1
  obtain ⟨b, rfl, hb⟩ := inR_barr zh2; clear zh2
  obtain ⟨zx3, zl3, rfl, zh3, zr3⟩ := inRs_cons zr2; clear zr2
  obtain ⟨n, rfl, hn0, hn1⟩ := inR_i64 zh3; clear zh3
  obtain rfl := inRs_nil zr3; clear zr3
  have r1 : rIn (pfL a n) a n = true := (rIn_iff _ _ _).2 (pf_idem a n)
  have r2 : rIn (pfL a n) (List.replicate 16 0) 128 = rIn a (List.replicate 16 0) n := by
    rw [rIn_eq, rIn_eq, pf_128 _ (pfL_len a n), pf_zero, pf_zero]
  rw [AddrNets_t, r1, r2, pf_idem, dec_t (show a.length = 16 ∧ b.length = 16 from ⟨ha, hb⟩), dec_t ha]
  simp only [beq_self_eq_true, cond_true]
  rfl
end Go.Proofs.YtbgfpemjdomanaaDoor
