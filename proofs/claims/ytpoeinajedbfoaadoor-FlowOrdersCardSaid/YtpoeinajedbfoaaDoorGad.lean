/- Part Gad of the proof: laws used by the law of this claim. -/
import Derived.Test.YtpoeinajedbfoaaDoorGtx
import Derived.Test.YtpoeinajedbfoaaDoorGz
set_option linter.all false
namespace Go.Proofs.YtpoeinajedbfoaaDoor
open Go Go.Am Go.RowKit Go.Mix Go.Bas
set_option maxRecDepth 100000
noncomputable def GEada0 : List (Nat × Con) := []
theorem GEada0_ok : GOk Tryd.prog GEada0 := .nil
noncomputable def IEada0 : List (Nat × AF) := []
theorem IEada0_ok : IOk Tryd.prog IEada0 := .nil
noncomputable def CEada0 : List (Nat × (List Nat × (S → Option (Bool × Tr)))) := []
theorem CEada0_ok : COk Tryd.prog CEada0 := .nil
noncomputable def XEada0 : List (Nat × (List Sh × (List V → PT))) := []
theorem XEada0_ok : XOk Tryd.prog XEada0 := .nil
noncomputable def Eada0 : Env := ⟨Tryd.prog, GEada0, IEada0, CEada0, XEada0⟩
theorem Eada0_ok : EnvOk Eada0 := ⟨by kernel_rfl, GEada0_ok, IEada0_ok, CEada0_ok, XEada0_ok⟩
/-- the first byte that differs is smaller -/
def lessL : List UInt8 → List UInt8 → Bool
  | x :: a, y :: b => if x = y then lessL a b else decide ((x.toNat : Int) < y.toNat)
  | _, _ => false
def lsW (a b : List UInt8) : List (Nat × Option Blk) := [(0, some (.var (.barr 16) (.barr 16 a))), (1, some (.var (.barr 16) (.barr 16 b)))]
def lsS (a b : List UInt8) (i : Int) : S := ⟨[(2, .ref 0 [] 0 (.barr 16)), (3, .ref 1 [] 0 (.barr 16)), (6, .int .i64 i)], lsW a b, 2, true, 27⟩
def lsX (a b : List UInt8) : S := ⟨[(2, .ref 0 [] 0 (.barr 16)), (3, .ref 1 [] 0 (.barr 16))], lsW a b, 2, true, 27⟩
def lsR (c : Bool) : S := ⟨[(4, .bool c)], [], 0, true, 27⟩
structure LsI where
  (a b : List UInt8)
  (i : Int)
def lsGet (s : S) : LsI := ⟨toA (bkD s 0), toA (bkD s 1), toI (lkD s 6)⟩
def adLsI (x : LsI) : Prop := 0 ≤ x.i ∧ x.i ≤ 16 ∧ x.a.length = 16 ∧ x.b.length = 16
def lsO (x : LsI) : Tr := .br (x.a.drop x.i.toNat == x.b.drop x.i.toNat) (.leaf (.exit 0) (lsX x.a x.b)) (.leaf .ret (lsR (lessL (x.a.drop x.i.toNat) (x.b.drop x.i.toNat))))
noncomputable def lsG : S → Option (Bool × Tr) := gX lsGet (fun x => lsS x.a x.b x.i) adLsI lsO
noncomputable def af_adLess : AF := afOf Tryd.prog Tryd.f55 [.sum [2, 3, 6] [] lsG]
noncomputable def lsC : AC := (af_adLess.ac.sums.headD (.skip, [], [], fun _ => none)).1
theorem ls_b (a b : List UInt8) (i : Int) : aev Eada0 (inlN Eada0 6) lsC (bodyF (Am.ways [2, 3, 6] [2, 3] [4]) []) (lsS a b i) =
 bif decide (i < (16 : Int)) then
 bif andT (andT true (inB i (16 : Nat))) (inB i (16 : Nat)) && true then
 bif gt a i.toNat != gt b i.toNat then
 bif andT (andT true (inB i (16 : Nat))) (inB i (16 : Nat)) && true then
 some (Ex.ret, lsR (decide (gt a i.toNat < gt b i.toNat)))
 else none
 else some (Ex.normal, lsS a b (IntKind.i64.wrap (i + (1 : Int))))
 else none
 else some (Ex.exit (0 : Nat), lsX a b) := by kernel_rfl

theorem lessL_eq (x : UInt8) (a b : List UInt8) : lessL (x :: a) (x :: b) = lessL a b := by simp [lessL]
theorem beqc_eq (x : UInt8) (a b : List UInt8) : (x :: a == x :: b) = (a == b) := by simp
theorem beqc_ne {x y : UInt8} {a b : List UInt8} (h : ¬ x = y) : (x :: a == y :: b) = false := by simp [h]
theorem drop_gt {l : List UInt8} {i : Nat} (h : i < l.length) : l.drop i = l[i] :: l.drop (i + 1) := List.drop_eq_getElem_cons h
theorem gt_at {l : List UInt8} {i : Nat} (h : i < l.length) : gt l i = (l[i].toNat : Int) := gt_of_lt h
theorem toNat_ne {x y : UInt8} (h : ¬ x = y) : ¬ (x.toNat : Int) = y.toNat := fun e => h (UInt8.toNat_inj.mp (by omega))
theorem ls_loop : LoopOk Tryd.prog lsC.erase [] lsG := by
  refine loopX_ok Eada0_ok (d := 6) (AC.flat_ok (by kernel_rfl)) (Am.ways [2, 3, 6] [2, 3] [4]) [] lsGet _ lsO adLsI (fun x => (16 - x.i).toNat) (fun _ => rfl) ?_
  rintro ⟨a, b, i⟩ ⟨h0, h1, ha, hb⟩
  simp only at h0 h1 ha hb ⊢
  rw [ls_b]
  by_cases hi : i < 16
  · have hka : i.toNat < a.length := by omega
    have hkb : i.toNat < b.length := by omega
    have ga := gt_at hka
    have gb := gt_at hkb
    have hn : (i + 1).toNat = i.toNat + 1 := by omega
    have eO : lsO ⟨a, b, i⟩ = .br (a[i.toNat] :: a.drop (i.toNat + 1) == b[i.toNat] :: b.drop (i.toNat + 1)) (.leaf (.exit 0) (lsX a b)) (.leaf .ret (lsR (lessL (a[i.toNat] :: a.drop (i.toNat + 1)) (b[i.toNat] :: b.drop (i.toNat + 1))))) := by
      unfold lsO
      dsimp only
      rw [drop_gt hka, drop_gt hkb]
    by_cases he : a[i.toNat] = b[i.toNat]
    · have e1 : gt a i.toNat = gt b i.toNat := by rw [ga, gb, he]
      refine .inl ⟨⟨a, b, i + 1⟩, ?_, ⟨by dsimp only; omega, by dsimp only; omega, ha, hb⟩, by dsimp only; omega, leaf_eq ?_⟩
      · simp (disch := omega) only [dec_t, dec_f, inB_t, inC_t, andT_t, cond_true, cond_false, Bool.and_true, Bool.true_and, w64, wu32, wu8, nble_t, nblt_t, Bool.not_true, Bool.not_false, Bool.not_not, ieq_t, ieq_f, ine_t, ine_f, true_and, and_true, andT_l]
      · rw [eO, he]
        unfold lsO
        dsimp only
        rw [hn, beqc_eq, lessL_eq]
    · have e1 : ¬ gt a i.toNat = gt b i.toNat := by rw [ga, gb]; exact toNat_ne he
      refine .inr ⟨.ret, lsR (decide (gt a i.toNat < gt b i.toNat)), ?_, nofun, ?_⟩
      · simp (disch := omega) only [dec_t, dec_f, inB_t, inC_t, andT_t, cond_true, cond_false, Bool.and_true, Bool.true_and, w64, wu32, wu8, nble_t, nblt_t, Bool.not_true, Bool.not_false, Bool.not_not, ieq_t, ieq_f, ine_t, ine_f, true_and, and_true, andT_l]
      · rw [eO]
        refine leaf_f (beqc_ne he) ?_
        have e : lessL (a[i.toNat] :: a.drop (i.toNat + 1)) (b[i.toNat] :: b.drop (i.toNat + 1)) = decide (gt a i.toNat < gt b i.toNat) := by
          simp only [lessL, if_neg he, ga, gb]
        rw [e]
        exact .leaf
  · refine .inr ⟨.exit 0, lsX a b, ?_, nofun, ?_⟩
    · simp (disch := omega) only [dec_t, dec_f, inB_t, inC_t, andT_t, cond_true, cond_false, Bool.and_true, Bool.true_and, w64, wu32, wu8, nble_t, nblt_t, Bool.not_true, Bool.not_false, Bool.not_not, ieq_t, ieq_f, ine_t, ine_f, true_and, and_true, andT_l]
    · unfold lsO
      dsimp only
      rw [List.drop_of_length_le (by omega), List.drop_of_length_le (by omega)]
      exact leaf_t rfl .leaf
theorem af_adLess_ok : AllOk Tryd.prog 55 af_adLess := .sums Tryd.func55 (by kernel_rfl) (by kernel_rfl) (by kernel_rfl) (by kernel_rfl) (sums_one (c := lsC) (ts := [2, 3, 6]) (by kernel_rfl) (by kernel_rfl) ls_loop)
theorem adLess_t (a b : List UInt8) : callV Eada0 af_adLess [.barr 16 a, .barr 16 b] =
 bif okG (lsS a b (0 : Int) = lsS a b (0 : Int) ∧ adLsI { a := a, b := b, i := (0 : Int) }) then
 bif List.drop (0 : Nat) a == List.drop (0 : Nat) b then some (V.bool !a == b)
 else some (V.bool (lessL (List.drop (0 : Nat) a) (List.drop (0 : Nat) b)))
 else none := by kernel_rfl

/-! ### the document's -/
def rlS (a b : List UInt8) (i : Int) : S := ⟨[(2, .ref 0 [] 0 (.barr 16)), (3, .ref 1 [] 0 (.barr 16)), (5, .int .i64 i)], lsW a b, 2, true, 24⟩
def rlX : S := ⟨[], [], 0, true, 24⟩
def rlR (c : Bool) : S := ⟨[(4, .bool c)], [], 0, true, 24⟩
def rlGet (s : S) : LsI := ⟨toA (bkD s 0), toA (bkD s 1), toI (lkD s 5)⟩
def rlO (x : LsI) : Tr := .br (x.a.drop x.i.toNat == x.b.drop x.i.toNat) (.leaf (.exit 0) rlX) (.leaf .ret (rlR (lessL (x.a.drop x.i.toNat) (x.b.drop x.i.toNat))))
noncomputable def rlG : S → Option (Bool × Tr) := gX rlGet (fun x => rlS x.a x.b x.i) adLsI rlO
noncomputable def af_rAdLess : AF := afOf Tryd.prog Tryd.f56 [.sum [2, 3, 5] [] rlG]
noncomputable def rlC : AC := (af_rAdLess.ac.sums.headD (.skip, [], [], fun _ => none)).1
theorem rl_b (a b : List UInt8) (i : Int) : aev Eada0 (inlN Eada0 6) rlC (bodyF (Am.ways [2, 3, 5] [] [4]) []) (rlS a b i) =
 bif decide (i < (16 : Int)) then
 bif andT (andT true (inB i (16 : Nat))) (inB i (16 : Nat)) && true then
 bif gt a i.toNat != gt b i.toNat then
 bif andT (andT true (inB i (16 : Nat))) (inB i (16 : Nat)) && true then
 some (Ex.ret, rlR (decide (gt a i.toNat < gt b i.toNat)))
 else none
 else some (Ex.normal, rlS a b (IntKind.i64.wrap (i + (1 : Int))))
 else none
 else some (Ex.exit (0 : Nat), rlX) := by kernel_rfl

theorem rl_loop : LoopOk Tryd.prog rlC.erase [] rlG := by
  refine loopX_ok Eada0_ok (d := 6) (AC.flat_ok (by kernel_rfl)) (Am.ways [2, 3, 5] [] [4]) [] rlGet _ rlO adLsI (fun x => (16 - x.i).toNat) (fun _ => rfl) ?_
  rintro ⟨a, b, i⟩ ⟨h0, h1, ha, hb⟩
  simp only at h0 h1 ha hb ⊢
  rw [rl_b]
  by_cases hi : i < 16
  · have hka : i.toNat < a.length := by omega
    have hkb : i.toNat < b.length := by omega
    have ga := gt_at hka
    have gb := gt_at hkb
    have hn : (i + 1).toNat = i.toNat + 1 := by omega
    have eO : rlO ⟨a, b, i⟩ = .br (a[i.toNat] :: a.drop (i.toNat + 1) == b[i.toNat] :: b.drop (i.toNat + 1)) (.leaf (.exit 0) (rlX)) (.leaf .ret (rlR (lessL (a[i.toNat] :: a.drop (i.toNat + 1)) (b[i.toNat] :: b.drop (i.toNat + 1))))) := by
      unfold rlO
      dsimp only
      rw [drop_gt hka, drop_gt hkb]
    by_cases he : a[i.toNat] = b[i.toNat]
    · have e1 : gt a i.toNat = gt b i.toNat := by rw [ga, gb, he]
      refine .inl ⟨⟨a, b, i + 1⟩, ?_, ⟨by dsimp only; omega, by dsimp only; omega, ha, hb⟩, by dsimp only; omega, leaf_eq ?_⟩
      · simp (disch := omega) only [dec_t, dec_f, inB_t, inC_t, andT_t, cond_true, cond_false, Bool.and_true, Bool.true_and, w64, wu32, wu8, nble_t, nblt_t, Bool.not_true, Bool.not_false, Bool.not_not, ieq_t, ieq_f, ine_t, ine_f, true_and, and_true, andT_l]
      · rw [eO, he]
        unfold rlO
        dsimp only
        rw [hn, beqc_eq, lessL_eq]
    · have e1 : ¬ gt a i.toNat = gt b i.toNat := by rw [ga, gb]; exact toNat_ne he
      refine .inr ⟨.ret, rlR (decide (gt a i.toNat < gt b i.toNat)), ?_, nofun, ?_⟩
      · simp (disch := omega) only [dec_t, dec_f, inB_t, inC_t, andT_t, cond_true, cond_false, Bool.and_true, Bool.true_and, w64, wu32, wu8, nble_t, nblt_t, Bool.not_true, Bool.not_false, Bool.not_not, ieq_t, ieq_f, ine_t, ine_f, true_and, and_true, andT_l]
      · rw [eO]
        refine leaf_f (beqc_ne he) ?_
        have e : lessL (a[i.toNat] :: a.drop (i.toNat + 1)) (b[i.toNat] :: b.drop (i.toNat + 1)) = decide (gt a i.toNat < gt b i.toNat) := by
          simp only [lessL, if_neg he, ga, gb]
        rw [e]
        exact .leaf
  · refine .inr ⟨.exit 0, rlX, ?_, nofun, ?_⟩
    · simp (disch := omega) only [dec_t, dec_f, inB_t, inC_t, andT_t, cond_true, cond_false, Bool.and_true, Bool.true_and, w64, wu32, wu8, nble_t, nblt_t, Bool.not_true, Bool.not_false, Bool.not_not, ieq_t, ieq_f, ine_t, ine_f, true_and, and_true, andT_l]
    · unfold rlO
      dsimp only
      rw [List.drop_of_length_le (by omega), List.drop_of_length_le (by omega)]
      exact leaf_t rfl .leaf
theorem af_rAdLess_ok : AllOk Tryd.prog 56 af_rAdLess := .sums Tryd.func56 (by kernel_rfl) (by kernel_rfl) (by kernel_rfl) (by kernel_rfl) (sums_one (c := rlC) (ts := [2, 3, 5]) (by kernel_rfl) (by kernel_rfl) rl_loop)
theorem rAdLess_t (a b : List UInt8) : callV Eada0 af_rAdLess [.barr 16 a, .barr 16 b] =
 bif okG (rlS a b (0 : Int) = rlS a b (0 : Int) ∧ adLsI { a := a, b := b, i := (0 : Int) }) then
 bif List.drop (0 : Nat) a == List.drop (0 : Nat) b then some (V.bool false)
 else some (V.bool (lessL (List.drop (0 : Nat) a) (List.drop (0 : Nat) b)))
 else none := by kernel_rfl

theorem lessL_same : ∀ a : List UInt8, lessL a a = false
  | [] => rfl
  | x :: a => by simp [lessL, lessL_same a]
theorem adLess_v (a b : List UInt8) (ha : a.length = 16) (hb : b.length = 16) : callV Eada0 af_adLess [.barr 16 a, .barr 16 b] = some (.bool (lessL a b)) := by
  rw [adLess_t, okG_e ⟨Int.le_refl _, by show (0 : Int) ≤ 16; omega, ha, hb⟩, List.drop_zero, List.drop_zero]
  cases h : (a == b) with
  | true =>
    have := beq_iff_eq.1 h
    subst this
    rw [lessL_same]
    rfl
  | false => rfl
theorem rAdLess_v (a b : List UInt8) (ha : a.length = 16) (hb : b.length = 16) : callV Eada0 af_rAdLess [.barr 16 a, .barr 16 b] = some (.bool (lessL a b)) := by
  rw [rAdLess_t, okG_e ⟨Int.le_refl _, by show (0 : Int) ≤ 16; omega, ha, hb⟩, List.drop_zero, List.drop_zero]
  cases h : (a == b) with
  | true =>
    have := beq_iff_eq.1 h
    subst this
    rw [lessL_same]
    rfl
  | false => rfl
def cAdLess : List V → Option (V × Bool)
  | [.barr 16 a, .barr 16 b] => some (.bool (lessL a b), decide (a.length = 16 ∧ b.length = 16))
  | _ => none
theorem adLess_con : ∀ vs v, cAdLess vs = some (v, true) → SpecV Tryd.prog 55 vs v := by
  intro vs v h; unfold cAdLess at h; split at h
  · rename_i a b
    injection h with h; injection h with h hb; subst h
    exact callV_ok Eada0_ok af_adLess_ok ((by obtain ⟨h0, h1⟩ := of_decide_eq_true hb; exact adLess_v _ _ h0 h1))
  · cases h
theorem rAdLess_con : ∀ vs v, cAdLess vs = some (v, true) → SpecV Tryd.prog 56 vs v := by
  intro vs v h; unfold cAdLess at h; split at h
  · rename_i a b
    injection h with h; injection h with h hb; subst h
    exact callV_ok Eada0_ok af_rAdLess_ok ((by obtain ⟨h0, h1⟩ := of_decide_eq_true hb; exact rAdLess_v _ _ h0 h1))
  · cases h
end Go.Proofs.YtpoeinajedbfoaaDoor

namespace Go.Proofs.YtpoeinajedbfoaaDoor
open Go Go.Am Go.RowKit Go.Mix Go.Bas
set_option maxRecDepth 100000
noncomputable def GEadb0 : List (Nat × Con) := []
theorem GEadb0_ok : GOk Tryd.prog GEadb0 := .nil
noncomputable def IEadb0 : List (Nat × AF) := []
theorem IEadb0_ok : IOk Tryd.prog IEadb0 := .nil
noncomputable def CEadb0 : List (Nat × (List Nat × (S → Option (Bool × Tr)))) := []
theorem CEadb0_ok : COk Tryd.prog CEadb0 := .nil
noncomputable def XEadb0 : List (Nat × (List Sh × (List V → PT))) := []
theorem XEadb0_ok : XOk Tryd.prog XEadb0 := .nil
noncomputable def Eadb0 : Env := ⟨Tryd.prog, GEadb0, IEadb0, CEadb0, XEadb0⟩
theorem Eadb0_ok : EnvOk Eadb0 := ⟨by kernel_rfl, GEadb0_ok, IEadb0_ok, CEadb0_ok, XEadb0_ok⟩
noncomputable def af_adWords : AF := afOf Tryd.prog Tryd.f84 [.unr 9]
theorem af_adWords_ok : AllOk Tryd.prog 84 af_adWords := .flat Tryd.func84 (by kernel_rfl) (by kernel_rfl) (by kernel_rfl) (by kernel_rfl) (by kernel_rfl)
theorem adWords_t (a : List UInt8) : callV Eadb0 af_adWords [.barr 16 a] =
 some
 (V.arr (Sh.int IntKind.i64) (8 : Nat)
 (((((((((List.replicate (8 : Nat) (V.int IntKind.i64 (0 : Int))).set (0 : Nat)
 (V.int IntKind.i64
 (bits BinOp.or IntKind.i64
 (IntKind.i64.wrap (IntKind.i64.wrap (gt a (0 : Nat)) * (256 : Int)))
 (IntKind.i64.wrap (gt a (1 : Nat)))))).set
 (1 : Nat)
 (V.int IntKind.i64
 (bits BinOp.or IntKind.i64
 (IntKind.i64.wrap (IntKind.i64.wrap (gt a (2 : Nat)) * (256 : Int)))
 (IntKind.i64.wrap (gt a (3 : Nat)))))).set
 (2 : Nat)
 (V.int IntKind.i64
 (bits BinOp.or IntKind.i64
 (IntKind.i64.wrap (IntKind.i64.wrap (gt a (4 : Nat)) * (256 : Int)))
 (IntKind.i64.wrap (gt a (5 : Nat)))))).set
 (3 : Nat)
 (V.int IntKind.i64
 (bits BinOp.or IntKind.i64
 (IntKind.i64.wrap (IntKind.i64.wrap (gt a (6 : Nat)) * (256 : Int)))
 (IntKind.i64.wrap (gt a (7 : Nat)))))).set
 (4 : Nat)
 (V.int IntKind.i64
 (bits BinOp.or IntKind.i64 (IntKind.i64.wrap (IntKind.i64.wrap (gt a (8 : Nat)) * (256 : Int)))
 (IntKind.i64.wrap (gt a (9 : Nat)))))).set
 (5 : Nat)
 (V.int IntKind.i64
 (bits BinOp.or IntKind.i64 (IntKind.i64.wrap (IntKind.i64.wrap (gt a (10 : Nat)) * (256 : Int)))
 (IntKind.i64.wrap (gt a (11 : Nat)))))).set
 (6 : Nat)
 (V.int IntKind.i64
 (bits BinOp.or IntKind.i64 (IntKind.i64.wrap (IntKind.i64.wrap (gt a (12 : Nat)) * (256 : Int)))
 (IntKind.i64.wrap (gt a (13 : Nat)))))).set
 (7 : Nat)
 (V.int IntKind.i64
 (bits BinOp.or IntKind.i64 (IntKind.i64.wrap (IntKind.i64.wrap (gt a (14 : Nat)) * (256 : Int)))
 (IntKind.i64.wrap (gt a (15 : Nat))))))) := by kernel_rfl

noncomputable def af_adDigits : AF := afOf Tryd.prog Tryd.f105 [.unr 5]
theorem af_adDigits_ok : AllOk Tryd.prog 105 af_adDigits := .flat Tryd.func105 (by kernel_rfl) (by kernel_rfl) (by kernel_rfl) (by kernel_rfl) (by kernel_rfl)
theorem adDigits_t (n : Int) : callV Eadb0 af_adDigits [.int .i64 n] =
 bif
 andT
 (andT true
 (Am.inC (bits BinOp.and IntKind.i64 n (15 : Int))
 (IntKind.i64.wrap (bits BinOp.and IntKind.i64 n (15 : Int) + (1 : Int))).toNat &&
 Am.inC (IntKind.i64.wrap (bits BinOp.and IntKind.i64 n (15 : Int) + (1 : Int))) (16 : Nat)))
 (((cutL
 [(48 : UInt8), (49 : UInt8), (50 : UInt8), (51 : UInt8), (52 : UInt8), (53 : UInt8), (54 : UInt8),
 (55 : UInt8), (56 : UInt8), (57 : UInt8), (97 : UInt8), (98 : UInt8), (99 : UInt8), (100 : UInt8),
 (101 : UInt8), (102 : UInt8)]
 (bits BinOp.and IntKind.i64 n (15 : Int)).toNat
 (IntKind.i64.wrap (bits BinOp.and IntKind.i64 n (15 : Int) + (1 : Int))).toNat).length +
 (0 : Nat)).ble
 (9223372036854775807 : Nat)) then
 bif n.fdiv (16 : Int) == (0 : Int) then
 some
 (V.str
 (cutL
 [(48 : UInt8), (49 : UInt8), (50 : UInt8), (51 : UInt8), (52 : UInt8), (53 : UInt8), (54 : UInt8),
 (55 : UInt8), (56 : UInt8), (57 : UInt8), (97 : UInt8), (98 : UInt8), (99 : UInt8), (100 : UInt8),
 (101 : UInt8), (102 : UInt8)]
 (bits BinOp.and IntKind.i64 n (15 : Int)).toNat
 (IntKind.i64.wrap (bits BinOp.and IntKind.i64 n (15 : Int) + (1 : Int))).toNat ++
 []))
 else
 bif
 andT
 (andT true
 (Am.inC (bits BinOp.and IntKind.i64 (n.fdiv (16 : Int)) (15 : Int))
 (IntKind.i64.wrap (bits BinOp.and IntKind.i64 (n.fdiv (16 : Int)) (15 : Int) + (1 : Int))).toNat &&
 Am.inC (IntKind.i64.wrap (bits BinOp.and IntKind.i64 (n.fdiv (16 : Int)) (15 : Int) + (1 : Int)))
 (16 : Nat)))
 (((cutL
 [(48 : UInt8), (49 : UInt8), (50 : UInt8), (51 : UInt8), (52 : UInt8), (53 : UInt8), (54 : UInt8),
 (55 : UInt8), (56 : UInt8), (57 : UInt8), (97 : UInt8), (98 : UInt8), (99 : UInt8),
 (100 : UInt8), (101 : UInt8), (102 : UInt8)]
 (bits BinOp.and IntKind.i64 (n.fdiv (16 : Int)) (15 : Int)).toNat
 (IntKind.i64.wrap
 (bits BinOp.and IntKind.i64 (n.fdiv (16 : Int)) (15 : Int) + (1 : Int))).toNat).length +
 (cutL
 [(48 : UInt8), (49 : UInt8), (50 : UInt8), (51 : UInt8), (52 : UInt8), (53 : UInt8),
 (54 : UInt8), (55 : UInt8), (56 : UInt8), (57 : UInt8), (97 : UInt8), (98 : UInt8),
 (99 : UInt8), (100 : UInt8), (101 : UInt8), (102 : UInt8)]
 (bits BinOp.and IntKind.i64 n (15 : Int)).toNat
 (IntKind.i64.wrap (bits BinOp.and IntKind.i64 n (15 : Int) + (1 : Int))).toNat ++
 []).length).ble
 (9223372036854775807 : Nat)) then
 bif (n.fdiv (16 : Int)).fdiv (16 : Int) == (0 : Int) then
 some
 (V.str
 (cutL
 [(48 : UInt8), (49 : UInt8), (50 : UInt8), (51 : UInt8), (52 : UInt8), (53 : UInt8), (54 : UInt8),
 (55 : UInt8), (56 : UInt8), (57 : UInt8), (97 : UInt8), (98 : UInt8), (99 : UInt8), (100 : UInt8),
 (101 : UInt8), (102 : UInt8)]
 (bits BinOp.and IntKind.i64 (n.fdiv (16 : Int)) (15 : Int)).toNat
 (IntKind.i64.wrap (bits BinOp.and IntKind.i64 (n.fdiv (16 : Int)) (15 : Int) + (1 : Int))).toNat ++
 (cutL
 [(48 : UInt8), (49 : UInt8), (50 : UInt8), (51 : UInt8), (52 : UInt8), (53 : UInt8), (54 : UInt8),
 (55 : UInt8), (56 : UInt8), (57 : UInt8), (97 : UInt8), (98 : UInt8), (99 : UInt8), (100 : UInt8),
 (101 : UInt8), (102 : UInt8)]
 (bits BinOp.and IntKind.i64 n (15 : Int)).toNat
 (IntKind.i64.wrap (bits BinOp.and IntKind.i64 n (15 : Int) + (1 : Int))).toNat ++
 [])))
 else
 bif
 andT
 (andT true
 (Am.inC (bits BinOp.and IntKind.i64 ((n.fdiv (16 : Int)).fdiv (16 : Int)) (15 : Int))
 (IntKind.i64.wrap
 (bits BinOp.and IntKind.i64 ((n.fdiv (16 : Int)).fdiv (16 : Int)) (15 : Int) +
 (1 : Int))).toNat &&
 Am.inC
 (IntKind.i64.wrap
 (bits BinOp.and IntKind.i64 ((n.fdiv (16 : Int)).fdiv (16 : Int)) (15 : Int) + (1 : Int)))
 (16 : Nat)))
 (((cutL
 [(48 : UInt8), (49 : UInt8), (50 : UInt8), (51 : UInt8), (52 : UInt8), (53 : UInt8),
 (54 : UInt8), (55 : UInt8), (56 : UInt8), (57 : UInt8), (97 : UInt8), (98 : UInt8),
 (99 : UInt8), (100 : UInt8), (101 : UInt8), (102 : UInt8)]
 (bits BinOp.and IntKind.i64 ((n.fdiv (16 : Int)).fdiv (16 : Int)) (15 : Int)).toNat
 (IntKind.i64.wrap
 (bits BinOp.and IntKind.i64 ((n.fdiv (16 : Int)).fdiv (16 : Int)) (15 : Int) +
 (1 : Int))).toNat).length +
 (cutL
 [(48 : UInt8), (49 : UInt8), (50 : UInt8), (51 : UInt8), (52 : UInt8), (53 : UInt8),
 (54 : UInt8), (55 : UInt8), (56 : UInt8), (57 : UInt8), (97 : UInt8), (98 : UInt8),
 (99 : UInt8), (100 : UInt8), (101 : UInt8), (102 : UInt8)]
 (bits BinOp.and IntKind.i64 (n.fdiv (16 : Int)) (15 : Int)).toNat
 (IntKind.i64.wrap
 (bits BinOp.and IntKind.i64 (n.fdiv (16 : Int)) (15 : Int) + (1 : Int))).toNat ++
 (cutL
 [(48 : UInt8), (49 : UInt8), (50 : UInt8), (51 : UInt8), (52 : UInt8), (53 : UInt8),
 (54 : UInt8), (55 : UInt8), (56 : UInt8), (57 : UInt8), (97 : UInt8), (98 : UInt8),
 (99 : UInt8), (100 : UInt8), (101 : UInt8), (102 : UInt8)]
 (bits BinOp.and IntKind.i64 n (15 : Int)).toNat
 (IntKind.i64.wrap (bits BinOp.and IntKind.i64 n (15 : Int) + (1 : Int))).toNat ++
 [])).length).ble
 (9223372036854775807 : Nat)) then
 bif ((n.fdiv (16 : Int)).fdiv (16 : Int)).fdiv (16 : Int) == (0 : Int) then
 some
 (V.str
 (cutL
 [(48 : UInt8), (49 : UInt8), (50 : UInt8), (51 : UInt8), (52 : UInt8), (53 : UInt8), (54 : UInt8),
 (55 : UInt8), (56 : UInt8), (57 : UInt8), (97 : UInt8), (98 : UInt8), (99 : UInt8),
 (100 : UInt8), (101 : UInt8), (102 : UInt8)]
 (bits BinOp.and IntKind.i64 ((n.fdiv (16 : Int)).fdiv (16 : Int)) (15 : Int)).toNat
 (IntKind.i64.wrap
 (bits BinOp.and IntKind.i64 ((n.fdiv (16 : Int)).fdiv (16 : Int)) (15 : Int) +
 (1 : Int))).toNat ++
 (cutL
 [(48 : UInt8), (49 : UInt8), (50 : UInt8), (51 : UInt8), (52 : UInt8), (53 : UInt8),
 (54 : UInt8), (55 : UInt8), (56 : UInt8), (57 : UInt8), (97 : UInt8), (98 : UInt8),
 (99 : UInt8), (100 : UInt8), (101 : UInt8), (102 : UInt8)]
 (bits BinOp.and IntKind.i64 (n.fdiv (16 : Int)) (15 : Int)).toNat
 (IntKind.i64.wrap
 (bits BinOp.and IntKind.i64 (n.fdiv (16 : Int)) (15 : Int) + (1 : Int))).toNat ++
 (cutL
 [(48 : UInt8), (49 : UInt8), (50 : UInt8), (51 : UInt8), (52 : UInt8), (53 : UInt8),
 (54 : UInt8), (55 : UInt8), (56 : UInt8), (57 : UInt8), (97 : UInt8), (98 : UInt8),
 (99 : UInt8), (100 : UInt8), (101 : UInt8), (102 : UInt8)]
 (bits BinOp.and IntKind.i64 n (15 : Int)).toNat
 (IntKind.i64.wrap (bits BinOp.and IntKind.i64 n (15 : Int) + (1 : Int))).toNat ++
 []))))
 else
 bif
 andT
 (andT true
 (Am.inC
 (bits BinOp.and IntKind.i64 (((n.fdiv (16 : Int)).fdiv (16 : Int)).fdiv (16 : Int))
 (15 : Int))
 (IntKind.i64.wrap
 (bits BinOp.and IntKind.i64 (((n.fdiv (16 : Int)).fdiv (16 : Int)).fdiv (16 : Int))
 (15 : Int) +
 (1 : Int))).toNat &&
 Am.inC
 (IntKind.i64.wrap
 (bits BinOp.and IntKind.i64 (((n.fdiv (16 : Int)).fdiv (16 : Int)).fdiv (16 : Int))
 (15 : Int) +
 (1 : Int)))
 (16 : Nat)))
 (((cutL
 [(48 : UInt8), (49 : UInt8), (50 : UInt8), (51 : UInt8), (52 : UInt8), (53 : UInt8),
 (54 : UInt8), (55 : UInt8), (56 : UInt8), (57 : UInt8), (97 : UInt8), (98 : UInt8),
 (99 : UInt8), (100 : UInt8), (101 : UInt8), (102 : UInt8)]
 (bits BinOp.and IntKind.i64 (((n.fdiv (16 : Int)).fdiv (16 : Int)).fdiv (16 : Int))
 (15 : Int)).toNat
 (IntKind.i64.wrap
 (bits BinOp.and IntKind.i64 (((n.fdiv (16 : Int)).fdiv (16 : Int)).fdiv (16 : Int))
 (15 : Int) +
 (1 : Int))).toNat).length +
 (cutL
 [(48 : UInt8), (49 : UInt8), (50 : UInt8), (51 : UInt8), (52 : UInt8), (53 : UInt8),
 (54 : UInt8), (55 : UInt8), (56 : UInt8), (57 : UInt8), (97 : UInt8), (98 : UInt8),
 (99 : UInt8), (100 : UInt8), (101 : UInt8), (102 : UInt8)]
 (bits BinOp.and IntKind.i64 ((n.fdiv (16 : Int)).fdiv (16 : Int)) (15 : Int)).toNat
 (IntKind.i64.wrap
 (bits BinOp.and IntKind.i64 ((n.fdiv (16 : Int)).fdiv (16 : Int)) (15 : Int) +
 (1 : Int))).toNat ++
 (cutL
 [(48 : UInt8), (49 : UInt8), (50 : UInt8), (51 : UInt8), (52 : UInt8), (53 : UInt8),
 (54 : UInt8), (55 : UInt8), (56 : UInt8), (57 : UInt8), (97 : UInt8), (98 : UInt8),
 (99 : UInt8), (100 : UInt8), (101 : UInt8), (102 : UInt8)]
 (bits BinOp.and IntKind.i64 (n.fdiv (16 : Int)) (15 : Int)).toNat
 (IntKind.i64.wrap
 (bits BinOp.and IntKind.i64 (n.fdiv (16 : Int)) (15 : Int) + (1 : Int))).toNat ++
 (cutL
 [(48 : UInt8), (49 : UInt8), (50 : UInt8), (51 : UInt8), (52 : UInt8), (53 : UInt8),
 (54 : UInt8), (55 : UInt8), (56 : UInt8), (57 : UInt8), (97 : UInt8),
 (98 : UInt8), (99 : UInt8), (100 : UInt8), (101 : UInt8), (102 : UInt8)]
 (bits BinOp.and IntKind.i64 n (15 : Int)).toNat
 (IntKind.i64.wrap (bits BinOp.and IntKind.i64 n (15 : Int) + (1 : Int))).toNat ++
 []))).length).ble
 (9223372036854775807 : Nat)) then
 bif (((n.fdiv (16 : Int)).fdiv (16 : Int)).fdiv (16 : Int)).fdiv (16 : Int) == (0 : Int) then
 some
 (V.str
 (cutL
 [(48 : UInt8), (49 : UInt8), (50 : UInt8), (51 : UInt8), (52 : UInt8), (53 : UInt8),
 (54 : UInt8), (55 : UInt8), (56 : UInt8), (57 : UInt8), (97 : UInt8), (98 : UInt8),
 (99 : UInt8), (100 : UInt8), (101 : UInt8), (102 : UInt8)]
 (bits BinOp.and IntKind.i64 (((n.fdiv (16 : Int)).fdiv (16 : Int)).fdiv (16 : Int))
 (15 : Int)).toNat
 (IntKind.i64.wrap
 (bits BinOp.and IntKind.i64 (((n.fdiv (16 : Int)).fdiv (16 : Int)).fdiv (16 : Int))
 (15 : Int) +
 (1 : Int))).toNat ++
 (cutL
 [(48 : UInt8), (49 : UInt8), (50 : UInt8), (51 : UInt8), (52 : UInt8), (53 : UInt8),
 (54 : UInt8), (55 : UInt8), (56 : UInt8), (57 : UInt8), (97 : UInt8), (98 : UInt8),
 (99 : UInt8), (100 : UInt8), (101 : UInt8), (102 : UInt8)]
 (bits BinOp.and IntKind.i64 ((n.fdiv (16 : Int)).fdiv (16 : Int)) (15 : Int)).toNat
 (IntKind.i64.wrap
 (bits BinOp.and IntKind.i64 ((n.fdiv (16 : Int)).fdiv (16 : Int)) (15 : Int) +
 (1 : Int))).toNat ++
 (cutL
 [(48 : UInt8), (49 : UInt8), (50 : UInt8), (51 : UInt8), (52 : UInt8), (53 : UInt8),
 (54 : UInt8), (55 : UInt8), (56 : UInt8), (57 : UInt8), (97 : UInt8), (98 : UInt8),
 (99 : UInt8), (100 : UInt8), (101 : UInt8), (102 : UInt8)]
 (bits BinOp.and IntKind.i64 (n.fdiv (16 : Int)) (15 : Int)).toNat
 (IntKind.i64.wrap
 (bits BinOp.and IntKind.i64 (n.fdiv (16 : Int)) (15 : Int) + (1 : Int))).toNat ++
 (cutL
 [(48 : UInt8), (49 : UInt8), (50 : UInt8), (51 : UInt8), (52 : UInt8), (53 : UInt8),
 (54 : UInt8), (55 : UInt8), (56 : UInt8), (57 : UInt8), (97 : UInt8), (98 : UInt8),
 (99 : UInt8), (100 : UInt8), (101 : UInt8), (102 : UInt8)]
 (bits BinOp.and IntKind.i64 n (15 : Int)).toNat
 (IntKind.i64.wrap (bits BinOp.and IntKind.i64 n (15 : Int) + (1 : Int))).toNat ++
 [])))))
 else
 bif
 andT
 (andT true
 (Am.inC
 (bits BinOp.and IntKind.i64
 ((((n.fdiv (16 : Int)).fdiv (16 : Int)).fdiv (16 : Int)).fdiv (16 : Int)) (15 : Int))
 (IntKind.i64.wrap
 (bits BinOp.and IntKind.i64
 ((((n.fdiv (16 : Int)).fdiv (16 : Int)).fdiv (16 : Int)).fdiv (16 : Int))
 (15 : Int) +
 (1 : Int))).toNat &&
 Am.inC
 (IntKind.i64.wrap
 (bits BinOp.and IntKind.i64
 ((((n.fdiv (16 : Int)).fdiv (16 : Int)).fdiv (16 : Int)).fdiv (16 : Int))
 (15 : Int) +
 (1 : Int)))
 (16 : Nat)))
 (((cutL
 [(48 : UInt8), (49 : UInt8), (50 : UInt8), (51 : UInt8), (52 : UInt8), (53 : UInt8),
 (54 : UInt8), (55 : UInt8), (56 : UInt8), (57 : UInt8), (97 : UInt8), (98 : UInt8),
 (99 : UInt8), (100 : UInt8), (101 : UInt8), (102 : UInt8)]
 (bits BinOp.and IntKind.i64
 ((((n.fdiv (16 : Int)).fdiv (16 : Int)).fdiv (16 : Int)).fdiv (16 : Int))
 (15 : Int)).toNat
 (IntKind.i64.wrap
 (bits BinOp.and IntKind.i64
 ((((n.fdiv (16 : Int)).fdiv (16 : Int)).fdiv (16 : Int)).fdiv (16 : Int))
 (15 : Int) +
 (1 : Int))).toNat).length +
 (cutL
 [(48 : UInt8), (49 : UInt8), (50 : UInt8), (51 : UInt8), (52 : UInt8), (53 : UInt8),
 (54 : UInt8), (55 : UInt8), (56 : UInt8), (57 : UInt8), (97 : UInt8),
 (98 : UInt8), (99 : UInt8), (100 : UInt8), (101 : UInt8), (102 : UInt8)]
 (bits BinOp.and IntKind.i64 (((n.fdiv (16 : Int)).fdiv (16 : Int)).fdiv (16 : Int))
 (15 : Int)).toNat
 (IntKind.i64.wrap
 (bits BinOp.and IntKind.i64
 (((n.fdiv (16 : Int)).fdiv (16 : Int)).fdiv (16 : Int)) (15 : Int) +
 (1 : Int))).toNat ++
 (cutL
 [(48 : UInt8), (49 : UInt8), (50 : UInt8), (51 : UInt8), (52 : UInt8),
 (53 : UInt8), (54 : UInt8), (55 : UInt8), (56 : UInt8), (57 : UInt8),
 (97 : UInt8), (98 : UInt8), (99 : UInt8), (100 : UInt8), (101 : UInt8),
 (102 : UInt8)]
 (bits BinOp.and IntKind.i64 ((n.fdiv (16 : Int)).fdiv (16 : Int))
 (15 : Int)).toNat
 (IntKind.i64.wrap
 (bits BinOp.and IntKind.i64 ((n.fdiv (16 : Int)).fdiv (16 : Int)) (15 : Int) +
 (1 : Int))).toNat ++
 (cutL
 [(48 : UInt8), (49 : UInt8), (50 : UInt8), (51 : UInt8), (52 : UInt8),
 (53 : UInt8), (54 : UInt8), (55 : UInt8), (56 : UInt8), (57 : UInt8),
 (97 : UInt8), (98 : UInt8), (99 : UInt8), (100 : UInt8), (101 : UInt8),
 (102 : UInt8)]
 (bits BinOp.and IntKind.i64 (n.fdiv (16 : Int)) (15 : Int)).toNat
 (IntKind.i64.wrap
 (bits BinOp.and IntKind.i64 (n.fdiv (16 : Int)) (15 : Int) +
 (1 : Int))).toNat ++
 (cutL
 [(48 : UInt8), (49 : UInt8), (50 : UInt8), (51 : UInt8), (52 : UInt8),
 (53 : UInt8), (54 : UInt8), (55 : UInt8), (56 : UInt8), (57 : UInt8),
 (97 : UInt8), (98 : UInt8), (99 : UInt8), (100 : UInt8), (101 : UInt8),
 (102 : UInt8)]
 (bits BinOp.and IntKind.i64 n (15 : Int)).toNat
 (IntKind.i64.wrap
 (bits BinOp.and IntKind.i64 n (15 : Int) + (1 : Int))).toNat ++
 [])))).length).ble
 (9223372036854775807 : Nat)) then
 bif
 ((((n.fdiv (16 : Int)).fdiv (16 : Int)).fdiv (16 : Int)).fdiv (16 : Int)).fdiv (16 : Int) ==
 (0 : Int) then
 some
 (V.str
 (cutL
 [(48 : UInt8), (49 : UInt8), (50 : UInt8), (51 : UInt8), (52 : UInt8), (53 : UInt8),
 (54 : UInt8), (55 : UInt8), (56 : UInt8), (57 : UInt8), (97 : UInt8), (98 : UInt8),
 (99 : UInt8), (100 : UInt8), (101 : UInt8), (102 : UInt8)]
 (bits BinOp.and IntKind.i64
 ((((n.fdiv (16 : Int)).fdiv (16 : Int)).fdiv (16 : Int)).fdiv (16 : Int))
 (15 : Int)).toNat
 (IntKind.i64.wrap
 (bits BinOp.and IntKind.i64
 ((((n.fdiv (16 : Int)).fdiv (16 : Int)).fdiv (16 : Int)).fdiv (16 : Int))
 (15 : Int) +
 (1 : Int))).toNat ++
 (cutL
 [(48 : UInt8), (49 : UInt8), (50 : UInt8), (51 : UInt8), (52 : UInt8), (53 : UInt8),
 (54 : UInt8), (55 : UInt8), (56 : UInt8), (57 : UInt8), (97 : UInt8), (98 : UInt8),
 (99 : UInt8), (100 : UInt8), (101 : UInt8), (102 : UInt8)]
 (bits BinOp.and IntKind.i64 (((n.fdiv (16 : Int)).fdiv (16 : Int)).fdiv (16 : Int))
 (15 : Int)).toNat
 (IntKind.i64.wrap
 (bits BinOp.and IntKind.i64 (((n.fdiv (16 : Int)).fdiv (16 : Int)).fdiv (16 : Int))
 (15 : Int) +
 (1 : Int))).toNat ++
 (cutL
 [(48 : UInt8), (49 : UInt8), (50 : UInt8), (51 : UInt8), (52 : UInt8), (53 : UInt8),
 (54 : UInt8), (55 : UInt8), (56 : UInt8), (57 : UInt8), (97 : UInt8), (98 : UInt8),
 (99 : UInt8), (100 : UInt8), (101 : UInt8), (102 : UInt8)]
 (bits BinOp.and IntKind.i64 ((n.fdiv (16 : Int)).fdiv (16 : Int)) (15 : Int)).toNat
 (IntKind.i64.wrap
 (bits BinOp.and IntKind.i64 ((n.fdiv (16 : Int)).fdiv (16 : Int)) (15 : Int) +
 (1 : Int))).toNat ++
 (cutL
 [(48 : UInt8), (49 : UInt8), (50 : UInt8), (51 : UInt8), (52 : UInt8), (53 : UInt8),
 (54 : UInt8), (55 : UInt8), (56 : UInt8), (57 : UInt8), (97 : UInt8),
 (98 : UInt8), (99 : UInt8), (100 : UInt8), (101 : UInt8), (102 : UInt8)]
 (bits BinOp.and IntKind.i64 (n.fdiv (16 : Int)) (15 : Int)).toNat
 (IntKind.i64.wrap
 (bits BinOp.and IntKind.i64 (n.fdiv (16 : Int)) (15 : Int) +
 (1 : Int))).toNat ++
 (cutL
 [(48 : UInt8), (49 : UInt8), (50 : UInt8), (51 : UInt8), (52 : UInt8),
 (53 : UInt8), (54 : UInt8), (55 : UInt8), (56 : UInt8), (57 : UInt8),
 (97 : UInt8), (98 : UInt8), (99 : UInt8), (100 : UInt8), (101 : UInt8),
 (102 : UInt8)]
 (bits BinOp.and IntKind.i64 n (15 : Int)).toNat
 (IntKind.i64.wrap (bits BinOp.and IntKind.i64 n (15 : Int) + (1 : Int))).toNat ++
 []))))))
 else none
 else none
 else none
 else none
 else none
 else none := by kernel_rfl

/-- the numbers of an address -/
def wdI (a : List UInt8) (i : Nat) : Int := gt a (2 * i) * 256 + gt a (2 * i + 1)
def wdL (a : List UInt8) : List V := [.int .i64 (wdI a 0), .int .i64 (wdI a 1), .int .i64 (wdI a 2), .int .i64 (wdI a 3), .int .i64 (wdI a 4), .int .i64 (wdI a 5), .int .i64 (wdI a 6), .int .i64 (wdI a 7)]
theorem wd_or (a : List UInt8) (i j : Nat) : bits .or .i64 (IntKind.i64.wrap (IntKind.i64.wrap (gt a i) * 256)) (IntKind.i64.wrap (gt a j)) = gt a i * 256 + gt a j := by
  have h1 := gt_lo a i; have h2 := gt_hi a i; have h3 := gt_lo a j; have h4 := gt_hi a j
  rw [w64 (x := gt a i) (by omega) (by omega), w64 (x := gt a i * 256) (by omega) (by omega), w64 (x := gt a j) (by omega) (by omega)]
  exact or256 _ _ (by omega) (by omega) (by omega) (by omega)
theorem adWords_v (a : List UInt8) : callV Eadb0 af_adWords [.barr 16 a] = some (.arr (.int .i64) 8 (wdL a)) := by
  rw [adWords_t]
  simp only [wd_or]
  rfl
def cAdWords : List V → Option (V × Bool)
  | [.barr 16 a] => some (.arr (.int .i64) 8 (wdL a), true)
  | _ => none
theorem adWords_con : ∀ vs v, cAdWords vs = some (v, true) → SpecV Tryd.prog 84 vs v := by
  intro vs v h; unfold cAdWords at h; split at h
  · rename_i a
    injection h with h; injection h with h hb; subst h
    exact callV_ok Eadb0_ok af_adWords_ok (adWords_v _)
  · cases h
/-! ### digits -/
def hexD (d : Nat) : UInt8 := [48, 49, 50, 51, 52, 53, 54, 55, 56, 57, 97, 98, 99, 100, 101, 102].getD d 0
def hx (n : Int) : UInt8 := hexD (n % 16).toNat
/-- a number of 16 bits in digits -/
def hexI (n : Int) : List UInt8 := if n / 16 = 0 then [hx n] else if n / 16 / 16 = 0 then [hx (n / 16), hx n] else if n / 16 / 16 / 16 = 0 then [hx (n / 16 / 16), hx (n / 16), hx n] else [hx (n / 16 / 16 / 16), hx (n / 16 / 16), hx (n / 16), hx n]
theorem adAnd15 (n : Int) : bits .and .i64 n 15 = n % 16 := and_mask_i64 n 4 (by omega)
theorem hexs_cut : ∀ k : Nat, k < 16 → cutL [48, 49, 50, 51, 52, 53, 54, 55, 56, 57, 97, 98, 99, 100, 101, 102] k (k + 1) = [hexD k] := by decide
theorem hxc (n : Int) : cutL [48, 49, 50, 51, 52, 53, 54, 55, 56, 57, 97, 98, 99, 100, 101, 102] (n % 16).toNat (IntKind.i64.wrap (n % 16 + 1)).toNat = [hx n] := by
  rw [w64 (by omega) (by omega), show (n % 16 + 1).toNat = (n % 16).toNat + 1 by omega]
  exact hexs_cut _ (by omega)
theorem hin (n : Int) : Am.inC (n % 16) (IntKind.i64.wrap (n % 16 + 1)).toNat = true := by
  rw [w64 (by omega) (by omega)]
  exact inC_t (by omega) (by omega)
theorem hin2 (n : Int) : Am.inC (IntKind.i64.wrap (n % 16 + 1)) 16 = true := by
  rw [w64 (by omega) (by omega)]
  exact inC_t (by omega) (by omega)
theorem fd16 (n : Int) : n.fdiv 16 = n / 16 := fdv (by decide)
theorem adDigits_v (n : Int) (h0 : 0 ≤ n) (h1 : n ≤ 65535) : callV Eadb0 af_adDigits [.int .i64 n] = some (.str (hexI n)) := by
  rw [adDigits_t]
  simp only [adAnd15, fd16, hxc, hin, hin2, List.length_append, List.length_cons, List.length_nil]
  unfold hexI
  by_cases c1 : n / 16 = 0
  · rw [if_pos c1]
    simp (disch := omega) only [dec_t, dec_f, inB_t, inC_t, andT_t, cond_true, cond_false, Bool.and_true, Bool.true_and, w64, wu32, wu8, nble_t, nblt_t, Bool.not_true, Bool.not_false, Bool.not_not, ieq_t, ieq_f, ine_t, ine_f, true_and, and_true, andT_l]
    rfl
  rw [if_neg c1]
  by_cases c2 : n / 16 / 16 = 0
  · rw [if_pos c2]
    simp (disch := omega) only [dec_t, dec_f, inB_t, inC_t, andT_t, cond_true, cond_false, Bool.and_true, Bool.true_and, w64, wu32, wu8, nble_t, nblt_t, Bool.not_true, Bool.not_false, Bool.not_not, ieq_t, ieq_f, ine_t, ine_f, true_and, and_true, andT_l]
    rfl
  rw [if_neg c2]
  by_cases c3 : n / 16 / 16 / 16 = 0
  · rw [if_pos c3]
    simp (disch := omega) only [dec_t, dec_f, inB_t, inC_t, andT_t, cond_true, cond_false, Bool.and_true, Bool.true_and, w64, wu32, wu8, nble_t, nblt_t, Bool.not_true, Bool.not_false, Bool.not_not, ieq_t, ieq_f, ine_t, ine_f, true_and, and_true, andT_l]
    rfl
  rw [if_neg c3]
  simp (disch := omega) only [dec_t, dec_f, inB_t, inC_t, andT_t, cond_true, cond_false, Bool.and_true, Bool.true_and, w64, wu32, wu8, nble_t, nblt_t, Bool.not_true, Bool.not_false, Bool.not_not, ieq_t, ieq_f, ine_t, ine_f, true_and, and_true, andT_l]
  rfl
def cAdDigits : List V → Option (V × Bool)
  | [.int .i64 n] => some (.str (hexI n), decide (0 ≤ n ∧ n ≤ 65535))
  | _ => none
theorem adDigits_con : ∀ vs v, cAdDigits vs = some (v, true) → SpecV Tryd.prog 105 vs v := by
  intro vs v h; unfold cAdDigits at h; split at h
  · rename_i n
    injection h with h; injection h with h hb; subst h
    exact callV_ok Eadb0_ok af_adDigits_ok ((by obtain ⟨h0, h1⟩ := of_decide_eq_true hb; exact adDigits_v _ h0 h1))
  · cases h
theorem hexI_len (n : Int) : (hexI n).length ≤ 4 := by
  unfold hexI
  repeat' split
  all_goals simp
/-! ### rows of 0 -/
/-- how many 0 a list begins with -/
def zrF : List V → Nat
  | [] => 0
  | v :: l => if toI v = 0 then zrF l + 1 else 0
theorem zrF_le : ∀ l : List V, zrF l ≤ l.length
  | [] => Nat.le_refl _
  | v :: l => by
    have := zrF_le l
    simp only [zrF, List.length_cons]
    split <;> omega
def znW (w : List V) : List (Nat × Option Blk) := [(0, some (.var (.arr 8 (.int .i64)) (.arr (.int .i64) 8 w)))]
theorem zrF_0 {v : V} {l : List V} (h : toI v = 0) : zrF (v :: l) = zrF l + 1 := by simp [zrF, h]
theorem zrF_1 {v : V} {l : List V} (h : ¬ toI v = 0) : zrF (v :: l) = 0 := by simp [zrF, h]
/-! ### the longest row -/
def rwA (w : List V) (f n i z k : Int) : S := ⟨[(1, .ref 0 [] 0 (.arr 8 (.int .i64))), (6, .int .i64 i), (7, .int .i64 z), (4, .int .i64 f), (5, .int .i64 n), (8, .int .i64 k)], znW w, 1, true, 33⟩
structure RwA where
  (w : List V)
  (f n i z k : Int)
def rwAget (s : S) : RwA := ⟨toE (bkD s 0), toI (lkD s 4), toI (lkD s 5), toI (lkD s 6), toI (lkD s 7), toI (lkD s 8)⟩
def rwAI (x : RwA) : Prop := 0 ≤ x.i ∧ 0 ≤ x.z ∧ x.i + x.z ≤ 8 ∧ x.w.length = 8
def rwAO (x : RwA) : Tr := .leaf (.exit 2) (rwA x.w x.f x.n x.i (x.z + zrF (x.w.drop (x.i + x.z).toNat)) x.k)
noncomputable def rwAG : S → Option (Bool × Tr) := gX rwAget (fun x => rwA x.w x.f x.n x.i x.z x.k) rwAI rwAO
def rwB (w : List V) (f n k : Int) : S := ⟨[(1, .ref 0 [] 0 (.arr 8 (.int .i64))), (8, .int .i64 k), (4, .int .i64 f), (5, .int .i64 n)], znW w, 1, true, 33⟩
def rwX (f n : Int) : S := ⟨[(4, .int .i64 f), (5, .int .i64 n)], [], 0, true, 33⟩
structure RwB where
  (w : List V)
  (f n k : Int)
def rwBget (s : S) : RwB := ⟨toE (bkD s 0), toI (lkD s 4), toI (lkD s 5), toI (lkD s 8)⟩
/-- the longest row of 0 from a place on -/
def rwF : List V → Int → Int → Int → Int × Int
  | [], _, f, n => (f, n)
  | v :: l, i, f, n => if (zrF (v :: l) : Int) > n then rwF l (i + 1) i (zrF (v :: l)) else rwF l (i + 1) f n
def rwBI (x : RwB) : Prop := 0 ≤ x.k ∧ x.k ≤ 8 ∧ x.w.length = 8
def rwBO (x : RwB) : Tr := .leaf (.exit 0) (rwX (rwF (x.w.drop x.k.toNat) x.k x.f x.n).1 (rwF (x.w.drop x.k.toNat) x.k x.f x.n).2)
noncomputable def rwBG : S → Option (Bool × Tr) := gX rwBget (fun x => rwB x.w x.f x.n x.k) rwBI rwBO
noncomputable def af_adRow : AF := afOf Tryd.prog Tryd.f85 [.sum [1, 6, 7, 4, 5, 8] [] rwAG, .sum [1, 8, 4, 5] [] rwBG]
noncomputable def rwBC : AC := (af_adRow.ac.sums.headD (.skip, [], [], fun _ => none)).1
noncomputable def rwAC : AC := (rwBC.sums.headD (.skip, [], [], fun _ => none)).1
theorem rwA_b (w : List V) (f n i z k : Int) : aev Eadb0 (inlN Eadb0 6) rwAC (bodyF (Am.ways [1, 6, 7, 4, 5, 8] [1, 6, 7, 4, 5, 8] []) []) (rwA w f n i z k) =
 bif decide (IntKind.i64.wrap (i + z) < (8 : Int)) then
 bif andT true (inB (IntKind.i64.wrap (i + z)) (8 : Nat)) then
 bif toI (w.getD (IntKind.i64.wrap (i + z)).toNat V.undef) == (0 : Int) then
 some (Ex.normal, rwA w f n i (IntKind.i64.wrap (z + (1 : Int))) k)
 else some (Ex.exit (2 : Nat), rwA w f n i z k)
 else none
 else some (Ex.exit (2 : Nat), rwA w f n i z k) := by kernel_rfl

theorem rwB_b (w : List V) (f n k : Int) : aev Eadb0 (inlN Eadb0 6) rwBC (bodyF (Am.ways [1, 8, 4, 5] [4, 5] []) []) (rwB w f n k) =
 bif decide (k < (8 : Int)) then
 bif
 okG
 (rwA w f n k (0 : Int) k = rwA w f n k (0 : Int) k ∧
 rwAI { w := w, f := f, n := n, i := k, z := (0 : Int), k := k }) then
 bif decide ((0 : Int) + (↑(zrF (List.drop (k + (0 : Int)).toNat w)) : Int) > n) then
 some
 (Ex.normal,
 rwB w k ((0 : Int) + (↑(zrF (List.drop (k + (0 : Int)).toNat w)) : Int)) (IntKind.i64.wrap (k + (1 : Int))))
 else some (Ex.normal, rwB w f n (IntKind.i64.wrap (k + (1 : Int))))
 else none
 else some (Ex.exit (0 : Nat), rwX f n) := by kernel_rfl

theorem rwA_loop : LoopOk Tryd.prog rwAC.erase [] rwAG := by
  refine loopX_ok Eadb0_ok (d := 6) (AC.flat_ok (by kernel_rfl)) (Am.ways [1, 6, 7, 4, 5, 8] [1, 6, 7, 4, 5, 8] []) [] rwAget _ rwAO rwAI (fun x => (8 - (x.i + x.z)).toNat) (fun _ => rfl) ?_
  rintro ⟨w, f, n, i, z, k⟩ ⟨h0, h1, h2, h3⟩
  simp only at h0 h1 h2 h3 ⊢
  rw [rwA_b, w64 (x := i + z) (by omega) (by omega)]
  unfold rwAO
  dsimp only
  by_cases hi : i + z < 8
  · have hd := drop_next (l := w) (i := (i + z).toNat) (d := .undef) (by omega)
    rw [hd]
    by_cases hz : toI (w.getD (i + z).toNat .undef) = 0
    · refine .inl ⟨⟨w, f, n, i, z + 1, k⟩, ?_, ⟨by dsimp only; omega, by dsimp only; omega, by dsimp only; omega, h3⟩, by dsimp only; omega, leaf_eq ?_⟩
      · simp (disch := omega) only [dec_t, dec_f, inB_t, inC_t, andT_t, cond_true, cond_false, Bool.and_true, Bool.true_and, w64, wu32, wu8, nble_t, nblt_t, Bool.not_true, Bool.not_false, Bool.not_not, ieq_t, ieq_f, ine_t, ine_f, true_and, and_true, andT_l]
      · dsimp only
        rw [zrF_0 hz, show (i + (z + 1)).toNat = (i + z).toNat + 1 by omega, show z + 1 + (zrF (w.drop ((i + z).toNat + 1)) : Int) = z + ((zrF (w.drop ((i + z).toNat + 1)) + 1 : Nat) : Int) by omega]
    · refine .inr ⟨.exit 2, rwA w f n i z k, ?_, nofun, ?_⟩
      · simp (disch := omega) only [dec_t, dec_f, inB_t, inC_t, andT_t, cond_true, cond_false, Bool.and_true, Bool.true_and, w64, wu32, wu8, nble_t, nblt_t, Bool.not_true, Bool.not_false, Bool.not_not, ieq_t, ieq_f, ine_t, ine_f, true_and, and_true, andT_l]
      · rw [zrF_1 hz, show z + ((0 : Nat) : Int) = z by omega]
        exact .leaf
  · refine .inr ⟨.exit 2, rwA w f n i z k, ?_, nofun, ?_⟩
    · simp (disch := omega) only [dec_t, dec_f, inB_t, inC_t, andT_t, cond_true, cond_false, Bool.and_true, Bool.true_and, w64, wu32, wu8, nble_t, nblt_t, Bool.not_true, Bool.not_false, Bool.not_not, ieq_t, ieq_f, ine_t, ine_f, true_and, and_true, andT_l]
    · rw [List.drop_of_length_le (by omega), show z + ((zrF [] : Nat) : Int) = z by show z + ((0 : Nat) : Int) = z; omega]
      exact .leaf
theorem rwBC_ok : LoopsOk Tryd.prog rwBC := sums_one (c := rwAC) (ts := [1, 6, 7, 4, 5, 8]) (by kernel_rfl) (by kernel_rfl) rwA_loop
theorem rwF_0 {v : V} {l : List V} {i f n : Int} (h : (zrF (v :: l) : Int) > n) : rwF (v :: l) i f n = rwF l (i + 1) i (zrF (v :: l)) := by simp only [rwF]; rw [if_pos h]
theorem rwF_1 {v : V} {l : List V} {i f n : Int} (h : ¬ (zrF (v :: l) : Int) > n) : rwF (v :: l) i f n = rwF l (i + 1) f n := by simp only [rwF]; rw [if_neg h]
theorem rwB_loop : LoopOk Tryd.prog rwBC.erase [] rwBG := by
  refine loopX_ok Eadb0_ok (d := 6) rwBC_ok (Am.ways [1, 8, 4, 5] [4, 5] []) [] rwBget _ rwBO rwBI (fun x => (8 - x.k).toNat) (fun _ => rfl) ?_
  rintro ⟨w, f, n, k⟩ ⟨h0, h1, h3⟩
  simp only at h0 h1 h3 ⊢
  rw [rwB_b]
  unfold rwBO
  dsimp only
  by_cases hi : k < 8
  · have hd := drop_next (l := w) (i := k.toNat) (d := .undef) (by omega)
    have hg : okG (rwA w f n k 0 k = rwA w f n k 0 k ∧ rwAI ⟨w, f, n, k, 0, k⟩) = true := okG_e ⟨h0, Int.le_refl _, by dsimp only; omega, h3⟩
    rw [hg, Int.add_zero, Int.zero_add]
    have hk : (k + 1).toNat = k.toNat + 1 := by omega
    by_cases hz : (zrF (w.drop k.toNat) : Int) > n
    · refine .inl ⟨⟨w, k, zrF (w.drop k.toNat), k + 1⟩, ?_, ⟨by dsimp only; omega, by dsimp only; omega, h3⟩, by dsimp only; omega, leaf_eq ?_⟩
      · simp (disch := omega) only [dec_t, dec_f, inB_t, inC_t, andT_t, cond_true, cond_false, Bool.and_true, Bool.true_and, w64, wu32, wu8, nble_t, nblt_t, Bool.not_true, Bool.not_false, Bool.not_not, ieq_t, ieq_f, ine_t, ine_f, true_and, and_true, andT_l]
      · dsimp only
        rw [hk]
        rw [hd] at hz ⊢
        rw [rwF_0 hz]
    · refine .inl ⟨⟨w, f, n, k + 1⟩, ?_, ⟨by dsimp only; omega, by dsimp only; omega, h3⟩, by dsimp only; omega, leaf_eq ?_⟩
      · simp (disch := omega) only [dec_t, dec_f, inB_t, inC_t, andT_t, cond_true, cond_false, Bool.and_true, Bool.true_and, w64, wu32, wu8, nble_t, nblt_t, Bool.not_true, Bool.not_false, Bool.not_not, ieq_t, ieq_f, ine_t, ine_f, true_and, and_true, andT_l]
      · dsimp only
        rw [hk]
        rw [hd] at hz
        rw [hd, rwF_1 hz]
  · refine .inr ⟨.exit 0, rwX f n, ?_, nofun, ?_⟩
    · simp (disch := omega) only [dec_t, dec_f, inB_t, inC_t, andT_t, cond_true, cond_false, Bool.and_true, Bool.true_and, w64, wu32, wu8, nble_t, nblt_t, Bool.not_true, Bool.not_false, Bool.not_not, ieq_t, ieq_f, ine_t, ine_f, true_and, and_true, andT_l]
    · rw [List.drop_of_length_le (by omega)]
      exact .leaf
theorem af_adRow_ok : AllOk Tryd.prog 85 af_adRow := .sums Tryd.func85 (by kernel_rfl) (by kernel_rfl) (by kernel_rfl) (by kernel_rfl) (sums_two (c := rwBC) (c2 := rwAC) (ts := [1, 8, 4, 5]) (ts2 := [1, 6, 7, 4, 5, 8]) (by kernel_rfl) (by kernel_rfl) rwB_loop rwA_loop)
theorem adRow_t (w : List V) : callV Eadb0 af_adRow [.arr (.int .i64) 8 w] =
 bif
 okG
 (rwB w (0 : Int) (0 : Int) (0 : Int) = rwB w (0 : Int) (0 : Int) (0 : Int) ∧
 rwBI { w := w, f := (0 : Int), n := (0 : Int), k := (0 : Int) }) then
 some
 (V.tup
 [V.int IntKind.i64
 (rwF
 (List.drop (rwBget (rwB w (0 : Int) (0 : Int) (0 : Int))).k.toNat
 (rwBget (rwB w (0 : Int) (0 : Int) (0 : Int))).w)
 (rwBget (rwB w (0 : Int) (0 : Int) (0 : Int))).k (rwBget (rwB w (0 : Int) (0 : Int) (0 : Int))).f
 (rwBget (rwB w (0 : Int) (0 : Int) (0 : Int))).n).1,
 V.int IntKind.i64
 (rwF
 (List.drop (rwBget (rwB w (0 : Int) (0 : Int) (0 : Int))).k.toNat
 (rwBget (rwB w (0 : Int) (0 : Int) (0 : Int))).w)
 (rwBget (rwB w (0 : Int) (0 : Int) (0 : Int))).k (rwBget (rwB w (0 : Int) (0 : Int) (0 : Int))).f
 (rwBget (rwB w (0 : Int) (0 : Int) (0 : Int))).n).2])
 else none := by kernel_rfl

def cAdRow : List V → Option (V × Bool)
  | [.arr (.int .i64) 8 w] => some (.tup [.int .i64 (rwF w 0 0 0).1, .int .i64 (rwF w 0 0 0).2], decide (w.length = 8))
  | _ => none
theorem adRow_v (w : List V) (h : w.length = 8) : callV Eadb0 af_adRow [.arr (.int .i64) 8 w] = some (.tup [.int .i64 (rwF w 0 0 0).1, .int .i64 (rwF w 0 0 0).2]) := by
  rw [adRow_t, okG_e ⟨Int.le_refl _, by show (0 : Int) ≤ 8; omega, h⟩]
  rfl
theorem adRow_con : ∀ vs v, cAdRow vs = some (v, true) → SpecV Tryd.prog 85 vs v := by
  intro vs v h; unfold cAdRow at h; split at h
  · rename_i w
    injection h with h; injection h with h hb; subst h
    exact callV_ok Eadb0_ok af_adRow_ok (adRow_v _ (of_decide_eq_true hb))
  · cases h
/-! ### numbers with colons between -/
def jnL (l : List V) : List V := l.map fun v => .str (hexI (toI v))
def jnF (l : List V) : List UInt8 := joinV (jnL l) [58]
def rg16 (l : List V) : Bool := l.all fun v => decide (0 ≤ toI v ∧ toI v ≤ 65535)
def jnA (l : List V) : S := ⟨[(6, .rows (.int .i64) l), (7, .int .i64 l.length), (8, .int .i64 0), (3, .nils)], [], 0, true, 20⟩
def adJnB (l : List V) (i : Int) (o : List V) : S := ⟨[(6, .rows (.int .i64) l), (7, .int .i64 l.length), (8, .int .i64 i), (3, .own 0 o.length .str)], [(0, some (.row 9 .str (.rows .str o)))], 1, true, 20⟩
def jnX0 : S := ⟨[(3, .nils)], [], 0, true, 20⟩
def jnX1 (o : List V) : S := ⟨[(3, .own 0 o.length .str)], [(0, some (.row 9 .str (.rows .str o)))], 1, true, 20⟩
structure JnI where
  (l : List V)
  (i : Int)
  (o : List V)
def jnGet (s : S) : JnI := ⟨toR (lkD s 6), toI (lkD s 8), toR (bkD s 0)⟩
def jnSt (x : JnI) : S := if x.i = 0 then jnA x.l else adJnB x.l x.i x.o
def jnI (x : JnI) : Prop := 0 ≤ x.i ∧ x.i ≤ x.l.length ∧ x.l.length ≤ 1000 ∧ x.o.length = x.i ∧ ∀ v ∈ x.l, 0 ≤ toI v ∧ toI v ≤ 65535
def jnO (x : JnI) : Tr := .br ((x.o ++ jnL (x.l.drop x.i.toNat)).isEmpty) (.leaf (.exit 0) jnX0) (.leaf (.exit 0) (jnX1 (x.o ++ jnL (x.l.drop x.i.toNat))))
noncomputable def jnG : S → Option (Bool × Tr) := gX jnGet jnSt jnI jnO
noncomputable def af_adJoin : AF := afOf Tryd.prog Tryd.f86 [.sum [6, 7, 8, 3] [] jnG]
noncomputable def jnC : AC := (af_adJoin.ac.sums.headD (.skip, [], [], fun _ => none)).1
noncomputable def GEadj : List (Nat × Con) := [(105, .val [.int .i64] cAdDigits), (106, .val [.rows (.str), .str] cStrJoin)]
theorem GEadj_ok : GOk Tryd.prog GEadj := .cons (enters_of Tryd.func105 (by kernel_rfl) rfl) adDigits_con <| .cons (enters_of Tryd.func106 (by kernel_rfl) rfl) xJoin_con <| .nil
noncomputable def IEadj : List (Nat × AF) := []
theorem IEadj_ok : IOk Tryd.prog IEadj := .nil
noncomputable def CEadj : List (Nat × (List Nat × (S → Option (Bool × Tr)))) := []
theorem CEadj_ok : COk Tryd.prog CEadj := .nil
noncomputable def XEadj : List (Nat × (List Sh × (List V → PT))) := []
theorem XEadj_ok : XOk Tryd.prog XEadj := .nil
noncomputable def Eadj : Env := ⟨Tryd.prog, GEadj, IEadj, CEadj, XEadj⟩
theorem Eadj_ok : EnvOk Eadj := ⟨by kernel_rfl, GEadj_ok, IEadj_ok, CEadj_ok, XEadj_ok⟩
theorem jnA_b (l : List V) : aev Eadj (inlN Eadj 6) jnC (bodyF (Am.ways [6, 7, 8, 3] [3] []) []) (jnA l) =
 bif decide ((0 : Int) < (↑l.length : Int)) then
 bif andT true (inB (0 : Int) l.length) then
 bif
 andT true
 (decide ((0 : Int) ≤ toI (l.getD (0 : Nat) V.undef) ∧ toI (l.getD (0 : Nat) V.undef) ≤ (65535 : Int))) then
 some
 (Ex.normal,
 adJnB l (1 : Int) (V.str (hexI (toI (l.getD (0 : Nat) V.undef))) :: List.replicate (nat_lit 0) (V.str [])))
 else none
 else none
 else some (Ex.exit (0 : Nat), jnX0) := by kernel_rfl

theorem jnB_b (l : List V) (i : Int) (o : List V) : aev Eadj (inlN Eadj 6) jnC (bodyF (Am.ways [6, 7, 8, 3] [3] []) []) (adJnB l i o) =
 bif decide (i < (↑l.length : Int)) then
 bif andT true (inB i l.length) then
 bif
 andT
 (andT true
 (decide ((0 : Int) ≤ toI (l.getD i.toNat V.undef) ∧ toI (l.getD i.toNat V.undef) ≤ (65535 : Int))))
 (((o ++ V.str (hexI (toI (l.getD i.toNat V.undef))) :: List.replicate (nat_lit 0) (V.str [])).length *
 (16 : Nat)).ble
 (140737488355328 : Nat)) then
 some
 (Ex.normal,
 adJnB l (IntKind.i64.wrap (i + (1 : Int)))
 (o ++ V.str (hexI (toI (l.getD i.toNat V.undef))) :: List.replicate (nat_lit 0) (V.str [])))
 else none
 else none
 else some (Ex.exit (0 : Nat), jnX1 o) := by kernel_rfl

theorem jnL_cons {l : List V} {i : Nat} (h : i < l.length) : jnL (l.drop i) = .str (hexI (toI (l.getD i .undef))) :: jnL (l.drop (i + 1)) := by
  rw [drop_next (d := .undef) h]; rfl
theorem jn_loop : LoopOk Tryd.prog jnC.erase [] jnG := by
  refine loopX_ok Eadj_ok (d := 6) (AC.flat_ok (by kernel_rfl)) (Am.ways [6, 7, 8, 3] [3] []) [] jnGet jnSt jnO jnI (fun x => (x.l.length - x.i).toNat) (fun x => by unfold jnSt; split <;> rfl) ?_
  rintro ⟨l, i, o⟩ ⟨h0, h1, h2, h3, h4⟩
  simp only at h0 h1 h2 h3 h4 ⊢
  have hr : ∀ k, k < l.length → 0 ≤ toI (l.getD k .undef) ∧ toI (l.getD k .undef) ≤ 65535 := by
    intro k hk
    rw [List.getD_eq_getElem?_getD, List.getElem?_eq_getElem hk]
    exact h4 _ (List.getElem_mem hk)
  by_cases hz : i = 0
  · subst hz
    obtain rfl : o = [] := List.length_eq_zero_iff.1 (by omega)
    rw [show jnSt ⟨l, 0, []⟩ = jnA l from if_pos rfl, jnA_b]
    by_cases hi : 0 < l.length
    · obtain ⟨r0, r1⟩ := hr 0 hi
      refine .inl ⟨⟨l, 1, [.str (hexI (toI (l.getD 0 .undef)))]⟩, ?_, ⟨by dsimp only; omega, by dsimp only; omega, h2, rfl, h4⟩, by dsimp only; omega, leaf_eq ?_⟩
      · simp (disch := omega) only [dec_t, dec_f, inB_t, inC_t, andT_t, cond_true, cond_false, Bool.and_true, Bool.true_and, w64, wu32, wu8, nble_t, nblt_t, Bool.not_true, Bool.not_false, Bool.not_not, ieq_t, ieq_f, ine_t, ine_f, true_and, and_true, andT_l]
        rfl
      · unfold jnO
        dsimp only
        rw [show (0 : Int).toNat = 0 from rfl, show (1 : Int).toNat = 1 from rfl, jnL_cons hi]
        rfl
    · refine .inr ⟨.exit 0, jnX0, ?_, nofun, ?_⟩
      · simp (disch := omega) only [dec_t, dec_f, inB_t, inC_t, andT_t, cond_true, cond_false, Bool.and_true, Bool.true_and, w64, wu32, wu8, nble_t, nblt_t, Bool.not_true, Bool.not_false, Bool.not_not, ieq_t, ieq_f, ine_t, ine_f, true_and, and_true, andT_l]
      · unfold jnO
        dsimp only
        rw [List.drop_of_length_le (by omega)]
        exact leaf_t rfl .leaf
  · rw [show jnSt ⟨l, i, o⟩ = adJnB l i o from if_neg hz, jnB_b]
    by_cases hi : i < l.length
    · obtain ⟨r0, r1⟩ := hr i.toNat (by omega)
      have ho : (o ++ V.str (hexI (toI (l.getD i.toNat .undef))) :: List.replicate (nat_lit 0) (V.str [])).length = o.length + 1 := by simp
      refine .inl ⟨⟨l, i + 1, o ++ [.str (hexI (toI (l.getD i.toNat .undef)))]⟩, ?_, ⟨by dsimp only; omega, by dsimp only; omega, h2, by dsimp only; rw [List.length_append, List.length_singleton]; omega, h4⟩, by dsimp only; omega, leaf_eq ?_⟩
      · rw [ho]
        simp (disch := omega) only [dec_t, dec_f, inB_t, inC_t, andT_t, cond_true, cond_false, Bool.and_true, Bool.true_and, w64, wu32, wu8, nble_t, nblt_t, Bool.not_true, Bool.not_false, Bool.not_not, ieq_t, ieq_f, ine_t, ine_f, true_and, and_true, andT_l]
        rw [show jnSt ⟨l, i + 1, o ++ [.str (hexI (toI (l.getD i.toNat .undef)))]⟩ = adJnB l (i + 1) (o ++ [.str (hexI (toI (l.getD i.toNat .undef)))]) from if_neg (show ¬ i + 1 = 0 by omega)]
        rfl
      · unfold jnO
        dsimp only
        rw [jnL_cons (l := l) (i := i.toNat) (by omega), show (i + 1).toNat = i.toNat + 1 by omega]
        simp
    · refine .inr ⟨.exit 0, jnX1 o, ?_, nofun, ?_⟩
      · simp (disch := omega) only [dec_t, dec_f, inB_t, inC_t, andT_t, cond_true, cond_false, Bool.and_true, Bool.true_and, w64, wu32, wu8, nble_t, nblt_t, Bool.not_true, Bool.not_false, Bool.not_not, ieq_t, ieq_f, ine_t, ine_f, true_and, and_true, andT_l]
      · unfold jnO
        dsimp only
        rw [List.drop_of_length_le (by omega), show jnL [] = [] from rfl, List.append_nil]
        refine leaf_f ?_ .leaf
        cases o with
        | nil => simp at h3; omega
        | cons => rfl
theorem af_adJoin_ok : AllOk Tryd.prog 86 af_adJoin := .sums Tryd.func86 (by kernel_rfl) (by kernel_rfl) (by kernel_rfl) (by kernel_rfl) (sums_one (c := jnC) (ts := [6, 7, 8, 3]) (by kernel_rfl) (by kernel_rfl) jn_loop)
theorem adJoin_t (l : List V) : callV Eadj af_adJoin [.rows (.int .i64) l] =
 bif
 okG
 ((jnA l =
 if (0 : Int) = (0 : Int) then jnA l
 else
 { sl := [((6 : Nat), V.rows (Sh.int IntKind.i64) l), ((7 : Nat), V.int IntKind.i64 (↑l.length : Int)), ((8 : Nat), V.int IntKind.i64 (0 : Int)), ((3 : Nat), V.own (0 : Nat) (0 : Nat) Sh.str)], hp := [((0 : Nat), some (Blk.row (9 : Nat) Sh.str (V.rows Sh.str [])))], nx := (1 : Nat), ob := true, n := (20 : Nat) }) ∧
 jnI { l := l, i := (0 : Int), o := [] }) then
 bif
 match [] ++ jnL (List.drop (0 : Nat) l) with
 | [] => true
 | head :: tail => false then
 some (V.str (joinV [] [(58 : UInt8)]))
 else
 bif
 andT true
 (decide
 (([] ++ jnL (List.drop (0 : Nat) l)).length ≤ (140737488355328 : Nat) ∧
 (joinV ([] ++ jnL (List.drop (0 : Nat) l)) [(58 : UInt8)]).length ≤ (140737488355328 : Nat))) then
 some (V.str (joinV ([] ++ jnL (List.drop (0 : Nat) l)) [(58 : UInt8)]))
 else none
 else none := by kernel_rfl

theorem jnF_len (l : List V) : (jnF l).length ≤ 5 * l.length := by
  have hl : ∀ r : List V, Lib.lens ((jnL r).map toS) ≤ 4 * r.length := by
    intro r
    induction r with
    | nil => exact Nat.zero_le _
    | cons v r ih =>
      have := hexI_len (toI v)
      have e : Lib.lens ((jnL (v :: r)).map toS) = (hexI (toI v)).length + Lib.lens ((jnL r).map toS) := by simp [Lib.lens, jnL, toS]
      rw [e, List.length_cons]
      omega
  cases l with
  | nil => exact Nat.zero_le _
  | cons v r =>
    have e : jnF (v :: r) = Lib.join (hexI (toI v) :: (jnL r).map toS) [58] := rfl
    rw [e, Lib.join_length]
    have h1 := hl (v :: r)
    have e2 : Lib.lens ((jnL (v :: r)).map toS) = Lib.lens (hexI (toI v) :: (jnL r).map toS) := rfl
    rw [e2] at h1
    have h2 : ((jnL r).map toS).length = r.length := by simp [jnL]
    rw [h2]
    simp only [List.length_cons, List.length_nil] at *
    omega
theorem rg16_spec {l : List V} (h : rg16 l = true) : ∀ v ∈ l, 0 ≤ toI v ∧ toI v ≤ 65535 := fun v hv => of_decide_eq_true (List.all_eq_true.1 h v hv)
theorem adJoin_v (l : List V) (h : l.length ≤ 1000) (hr : rg16 l = true) : callV Eadj af_adJoin [.rows (.int .i64) l] = some (.str (jnF l)) := by
  rw [adJoin_t, okG_t ⟨(if_pos rfl).symm, Int.le_refl _, by dsimp only; omega, h, rfl, rg16_spec hr⟩]
  have hj := jnF_len l
  have e : [] ++ jnL (l.drop 0) = jnL l := by rw [List.drop_zero, List.nil_append]
  have hl : (jnL l).length = l.length := by simp [jnL]
  cases l with
  | nil => rfl
  | cons v r =>
    show (bif false then some (V.str (joinV [] [58])) else (bif andT true (decide (([] ++ jnL ((v :: r).drop 0)).length ≤ 140737488355328 ∧ (joinV ([] ++ jnL ((v :: r).drop 0)) [58]).length ≤ 140737488355328)) then some (V.str (joinV ([] ++ jnL ((v :: r).drop 0)) [58])) else none)) = _
    rw [cond_false, e, hl, dec_t ⟨by omega, by show (jnF (v :: r)).length ≤ _; omega⟩]
    rfl
def cAdJoin : List V → Option (V × Bool)
  | [.rows (.int .i64) l] => some (.str (jnF l), (decide (l.length ≤ 1000) && rg16 l))
  | _ => none
theorem adJoin_con : ∀ vs v, cAdJoin vs = some (v, true) → SpecV Tryd.prog 86 vs v := by
  intro vs v h; unfold cAdJoin at h; split at h
  · rename_i l
    injection h with h; injection h with h hb; subst h
    exact callV_ok Eadj_ok af_adJoin_ok ((by obtain ⟨h0, h1⟩ := (Bool.and_eq_true _ _).mp hb; exact adJoin_v _ (of_decide_eq_true h0) h1))
  · cases h
noncomputable def af_adText : AF := afOf Tryd.prog Tryd.f69 []
theorem af_adText_ok : AllOk Tryd.prog 69 af_adText := .flat Tryd.func69 (by kernel_rfl) (by kernel_rfl) (by kernel_rfl) (by kernel_rfl) (by kernel_rfl)
noncomputable def GEadt : List (Nat × Con) := [(84, .val [.barr 16] cAdWords), (85, .val [.arr 8 (.int .i64)] cAdRow), (86, .val [.rows (.int .i64)] cAdJoin)]
theorem GEadt_ok : GOk Tryd.prog GEadt := .cons (enters_of Tryd.func84 (by kernel_rfl) rfl) adWords_con <| .cons (enters_of Tryd.func85 (by kernel_rfl) rfl) adRow_con <| .cons (enters_of Tryd.func86 (by kernel_rfl) rfl) adJoin_con <| .nil
noncomputable def IEadt : List (Nat × AF) := []
theorem IEadt_ok : IOk Tryd.prog IEadt := .nil
noncomputable def CEadt : List (Nat × (List Nat × (S → Option (Bool × Tr)))) := []
theorem CEadt_ok : COk Tryd.prog CEadt := .nil
noncomputable def XEadt : List (Nat × (List Sh × (List V → PT))) := []
theorem XEadt_ok : XOk Tryd.prog XEadt := .nil
noncomputable def Eadt : Env := ⟨Tryd.prog, GEadt, IEadt, CEadt, XEadt⟩
theorem Eadt_ok : EnvOk Eadt := ⟨by kernel_rfl, GEadt_ok, IEadt_ok, CEadt_ok, XEadt_ok⟩
theorem adText_t (a : List UInt8) : callV Eadt af_adText [.barr 16 a] =
 bif decide ((rwF (wdL a) (0 : Int) (0 : Int) (0 : Int)).2 < (2 : Int)) then
 bif
 andT true
 (decide ((cutL (wdL a) (0 : Nat) (8 : Nat)).length ≤ (1000 : Nat)) &&
 rg16 (cutL (wdL a) (0 : Nat) (8 : Nat))) then
 some (V.str (jnF (cutL (wdL a) (0 : Nat) (8 : Nat))))
 else none
 else
 bif
 andT
 (andT
 (andT
 (andT
 (andT (andT true (Am.inC (rwF (wdL a) (0 : Int) (0 : Int) (0 : Int)).1 (8 : Nat)))
 (decide
 ((cutL (wdL a) (0 : Nat)
 ((0 : Nat) + ((rwF (wdL a) (0 : Int) (0 : Int) (0 : Int)).1.toNat - (0 : Nat)))).length ≤
 (1000 : Nat)) &&
 rg16
 (cutL (wdL a) (0 : Nat)
 ((0 : Nat) + ((rwF (wdL a) (0 : Int) (0 : Int) (0 : Int)).1.toNat - (0 : Nat))))))
 (((jnF
 (cutL (wdL a) (0 : Nat)
 ((0 : Nat) + ((rwF (wdL a) (0 : Int) (0 : Int) (0 : Int)).1.toNat - (0 : Nat))))).length +
 (2 : Nat)).ble
 (9223372036854775807 : Nat)))
 (Am.inC
 (IntKind.i64.wrap
 ((rwF (wdL a) (0 : Int) (0 : Int) (0 : Int)).1 + (rwF (wdL a) (0 : Int) (0 : Int) (0 : Int)).2))
 (8 : Nat)))
 (decide
 ((cutL (wdL a)
 (IntKind.i64.wrap
 ((rwF (wdL a) (0 : Int) (0 : Int) (0 : Int)).1 +
 (rwF (wdL a) (0 : Int) (0 : Int) (0 : Int)).2)).toNat
 ((IntKind.i64.wrap
 ((rwF (wdL a) (0 : Int) (0 : Int) (0 : Int)).1 +
 (rwF (wdL a) (0 : Int) (0 : Int) (0 : Int)).2)).toNat +
 ((8 : Nat) -
 (IntKind.i64.wrap
 ((rwF (wdL a) (0 : Int) (0 : Int) (0 : Int)).1 +
 (rwF (wdL a) (0 : Int) (0 : Int) (0 : Int)).2)).toNat))).length ≤
 (1000 : Nat)) &&
 rg16
 (cutL (wdL a)
 (IntKind.i64.wrap
 ((rwF (wdL a) (0 : Int) (0 : Int) (0 : Int)).1 +
 (rwF (wdL a) (0 : Int) (0 : Int) (0 : Int)).2)).toNat
 ((IntKind.i64.wrap
 ((rwF (wdL a) (0 : Int) (0 : Int) (0 : Int)).1 +
 (rwF (wdL a) (0 : Int) (0 : Int) (0 : Int)).2)).toNat +
 ((8 : Nat) -
 (IntKind.i64.wrap
 ((rwF (wdL a) (0 : Int) (0 : Int) (0 : Int)).1 +
 (rwF (wdL a) (0 : Int) (0 : Int) (0 : Int)).2)).toNat)))))
 (((jnF
 (cutL (wdL a) (0 : Nat)
 ((0 : Nat) + ((rwF (wdL a) (0 : Int) (0 : Int) (0 : Int)).1.toNat - (0 : Nat)))) ++
 [(58 : UInt8), (58 : UInt8)]).length +
 (jnF
 (cutL (wdL a)
 (IntKind.i64.wrap
 ((rwF (wdL a) (0 : Int) (0 : Int) (0 : Int)).1 +
 (rwF (wdL a) (0 : Int) (0 : Int) (0 : Int)).2)).toNat
 ((IntKind.i64.wrap
 ((rwF (wdL a) (0 : Int) (0 : Int) (0 : Int)).1 +
 (rwF (wdL a) (0 : Int) (0 : Int) (0 : Int)).2)).toNat +
 ((8 : Nat) -
 (IntKind.i64.wrap
 ((rwF (wdL a) (0 : Int) (0 : Int) (0 : Int)).1 +
 (rwF (wdL a) (0 : Int) (0 : Int) (0 : Int)).2)).toNat)))).length).ble
 (9223372036854775807 : Nat)) &&
 true then
 some
 (V.str
 (jnF
 (cutL (wdL a) (0 : Nat)
 ((0 : Nat) + ((rwF (wdL a) (0 : Int) (0 : Int) (0 : Int)).1.toNat - (0 : Nat)))) ++
 [(58 : UInt8), (58 : UInt8)] ++
 jnF
 (cutL (wdL a)
 (IntKind.i64.wrap
 ((rwF (wdL a) (0 : Int) (0 : Int) (0 : Int)).1 +
 (rwF (wdL a) (0 : Int) (0 : Int) (0 : Int)).2)).toNat
 ((IntKind.i64.wrap
 ((rwF (wdL a) (0 : Int) (0 : Int) (0 : Int)).1 +
 (rwF (wdL a) (0 : Int) (0 : Int) (0 : Int)).2)).toNat +
 ((8 : Nat) -
 (IntKind.i64.wrap
 ((rwF (wdL a) (0 : Int) (0 : Int) (0 : Int)).1 +
 (rwF (wdL a) (0 : Int) (0 : Int) (0 : Int)).2)).toNat)))))
 else none := by kernel_rfl

theorem rwF_rng : ∀ (l : List V) (i f n : Int), 0 ≤ f → 0 ≤ n → 0 ≤ i → f + n ≤ i + l.length → 0 ≤ (rwF l i f n).1 ∧ 0 ≤ (rwF l i f n).2 ∧ (rwF l i f n).1 + (rwF l i f n).2 ≤ i + l.length
  | [], i, f, n, h0, h1, _, h2 => ⟨h0, h1, h2⟩
  | v :: l, i, f, n, h0, h1, hi, h2 => by
    simp only [List.length_cons] at h2 ⊢
    have hz := zrF_le (v :: l)
    simp only [List.length_cons] at hz
    by_cases h : (zrF (v :: l) : Int) > n
    · rw [rwF_0 h]
      have := rwF_rng l (i + 1) i (zrF (v :: l)) hi (by omega) (by omega) (by omega)
      omega
    · rw [rwF_1 h]
      have := rwF_rng l (i + 1) f n h0 h1 (by omega) (by omega)
      omega
theorem wdI_rng (a : List UInt8) (i : Nat) : 0 ≤ wdI a i ∧ wdI a i ≤ 65535 := by
  have h1 := gt_lo a (2 * i); have h2 := gt_hi a (2 * i); have h3 := gt_lo a (2 * i + 1); have h4 := gt_hi a (2 * i + 1)
  unfold wdI
  omega
theorem rg16_wd (a : List UInt8) : rg16 (wdL a) = true := by
  unfold rg16 wdL
  simp only [List.all_cons, List.all_nil, toI, Bool.and_true, Bool.and_eq_true, decide_eq_true_eq]
  refine ⟨?_, ?_, ?_, ?_, ?_, ?_, ?_, ?_⟩ <;> exact decide_eq_true (wdI_rng a _)
theorem rg16_sub {l m : List V} (h : rg16 l = true) (hs : ∀ v ∈ m, v ∈ l) : rg16 m = true := List.all_eq_true.2 fun v hv => List.all_eq_true.1 h v (hs v hv)
/-- the text of numbers -/
def txF (w : List V) : List UInt8 := if (rwF w 0 0 0).2 < 2 then jnF w else jnF (w.take (rwF w 0 0 0).1.toNat) ++ [58, 58] ++ jnF (w.drop ((rwF w 0 0 0).1 + (rwF w 0 0 0).2).toNat)
def adT (a : List UInt8) : List UInt8 := txF (wdL a)
theorem adText_v (a : List UInt8) : callV Eadt af_adText [.barr 16 a] = some (.str (adT a)) := by
  rw [adText_t]
  obtain ⟨r0, r1, r2⟩ := rwF_rng (wdL a) 0 0 0 (by omega) (by omega) (by omega) (by rw [show (wdL a).length = 8 from rfl]; decide)
  rw [show (wdL a).length = 8 from rfl] at r2
  have hw := rg16_wd a
  unfold adT txF
  obtain ⟨w, hwd⟩ : ∃ w, wdL a = w := ⟨_, rfl⟩
  have hl : w.length = 8 := by rw [← hwd]; rfl
  rw [hwd] at r0 r1 r2 hw ⊢
  obtain ⟨f, hf⟩ : ∃ f, (rwF w 0 0 0).1 = f := ⟨_, rfl⟩
  obtain ⟨n, hn⟩ : ∃ n, (rwF w 0 0 0).2 = n := ⟨_, rfl⟩
  rw [hf] at r0 r2 ⊢
  rw [hn] at r1 r2 ⊢
  rw [w64 (x := f + n) (by omega) (by omega)]
  have e1 : cutL w 0 8 = w := by rw [cutL_zero, List.take_of_length_le (by omega)]
  have e2 : cutL w 0 (0 + (f.toNat - 0)) = w.take f.toNat := by rw [cutL_zero, Nat.zero_add, Nat.sub_zero]
  have e3 : cutL w (f + n).toNat ((f + n).toNat + (8 - (f + n).toNat)) = w.drop (f + n).toNat := by rw [show (f + n).toNat + (8 - (f + n).toNat) = w.length by omega, cutL_all]
  have g2 := rg16_sub hw (m := w.take f.toNat) fun v hv => List.mem_of_mem_take hv
  have g3 := rg16_sub hw (m := w.drop (f + n).toNat) fun v hv => List.mem_of_mem_drop hv
  have l2 := jnF_len (w.take f.toNat)
  have l3 := jnF_len (w.drop (f + n).toNat)
  have k2 : (w.take f.toNat).length ≤ 8 := by rw [List.length_take]; omega
  have k3 : (w.drop (f + n).toNat).length ≤ 8 := by rw [List.length_drop]; omega
  by_cases c : n < 2
  · rw [if_pos c, e1, hw]
    simp (disch := omega) only [dec_t, dec_f, inB_t, inC_t, andT_t, cond_true, cond_false, Bool.and_true, Bool.true_and, w64, wu32, wu8, nble_t, nblt_t, Bool.not_true, Bool.not_false, Bool.not_not, ieq_t, ieq_f, ine_t, ine_f, true_and, and_true, andT_l]
  · rw [if_neg c, e2, e3, g2, g3]
    simp only [List.length_append, List.length_cons, List.length_nil]
    simp (disch := omega) only [dec_t, dec_f, inB_t, inC_t, andT_t, cond_true, cond_false, Bool.and_true, Bool.true_and, w64, wu32, wu8, nble_t, nblt_t, Bool.not_true, Bool.not_false, Bool.not_not, ieq_t, ieq_f, ine_t, ine_f, true_and, and_true, andT_l]
def cAdText : List V → Option (V × Bool)
  | [.barr 16 a] => some (.str (adT a), true)
  | _ => none
theorem adText_con : ∀ vs v, cAdText vs = some (v, true) → SpecV Tryd.prog 69 vs v := by
  intro vs v h; unfold cAdText at h; split at h
  · rename_i a
    injection h with h; injection h with h hb; subst h
    exact callV_ok Eadt_ok af_adText_ok (adText_v _)
  · cases h
/-! ### the document's text -/
end Go.Proofs.YtpoeinajedbfoaaDoor

namespace Go.Proofs.YtpoeinajedbfoaaDoor
open Go Go.Am Go.RowKit Go.Mix Go.Bas
set_option maxRecDepth 100000
end Go.Proofs.YtpoeinajedbfoaaDoor
