/- Part Gh of the proof: laws used by the law of this claim. -/
import Derived.Test.YtbojofchpnfnlaaGreatProg
import Derived.Test.YtbojofchpnfnlaaGreatGg
import Derived.Test.YtbojofchpnfnlaaGreatGf
set_option linter.all false
namespace Go.Proofs.YtbojofchpnfnlaaGreat
open Go Go.Am Go.RowKit Go.Mix Go.Bas
set_option maxRecDepth 100000
def byO (v : V) : Bool := decide (0 ≤ toI v) && decide (toI v ≤ 255)
def byB (l : List V) : Bool := l.all byO
def byX (b : Bool) : S := ⟨[(2, .bool b)], [], 0, true, 18⟩
def byT (l : List V) : Tr := .br (byB l) (.leaf (.exit 0) (byX false)) (.leaf .ret (byX false))
def byG : S → Option (Bool × Tr) := gOf 18 0 fun sl _ => match sl 5, sl 6, sl 7, sl 2 with
  | some (.rows (.int .i64) l), some (.int .i64 n), some (.int .i64 i), some (.bool false) => some (decide (n = l.length ∧ 0 ≤ i ∧ i ≤ n ∧ n ≤ 4611686018427387904), byT (l.drop i.toNat))
  | _, _, _, _ => none
noncomputable def af_byteful : AF := afOf Tryz.prog Tryz.f135 [.sum [5, 6, 7, 2] [] byG]
noncomputable def byC : AC := (af_byteful.ac.sums.headD (.skip, [], [], fun _ => none)).1
def bySt (l : List V) (n i : Int) : S := ⟨[(5, .rows (.int .i64) l), (6, .int .i64 n), (7, .int .i64 i), (2, .bool false)], [], 0, true, 18⟩
noncomputable def GEsr0 : List (Nat × Con) := []
theorem GEsr0_ok : GOk Tryz.prog GEsr0 := .nil
noncomputable def IEsr0 : List (Nat × AF) := []
theorem IEsr0_ok : IOk Tryz.prog IEsr0 := .nil
noncomputable def CEsr0 : List (Nat × (List Nat × (S → Option (Bool × Tr)))) := []
theorem CEsr0_ok : COk Tryz.prog CEsr0 := .nil
noncomputable def XEsr0 : List (Nat × (List Sh × (List V → PT))) := []
theorem XEsr0_ok : XOk Tryz.prog XEsr0 := .nil
noncomputable def Esr0 : Env := ⟨Tryz.prog, GEsr0, IEsr0, CEsr0, XEsr0⟩
theorem Esr0_ok : EnvOk Esr0 := ⟨by kernel_rfl, GEsr0_ok, IEsr0_ok, CEsr0_ok, XEsr0_ok⟩
theorem byteful_b (l : List V) (n i : Int) : aev Esr0 (inlN Esr0 6) byC (bodyK [5, 6, 7, 2] [2] []) (bySt l n i) =
 bif decide (i < n) then
 bif andT true (inB i l.length) then
 bif decide (toI (l.getD i.toNat V.undef) < (0 : Int)) then
 some (Ex.ret, { sl := [((2 : Nat), V.bool false)], hp := [], nx := (0 : Nat), ob := true, n := (18 : Nat) })
 else
 bif decide (toI (l.getD i.toNat V.undef) > (255 : Int)) then
 some (Ex.ret, { sl := [((2 : Nat), V.bool false)], hp := [], nx := (0 : Nat), ob := true, n := (18 : Nat) })
 else
 some
 (Ex.normal,
 { sl := [((5 : Nat), V.rows (Sh.int IntKind.i64) l), ((6 : Nat), V.int IntKind.i64 n), ((7 : Nat), V.int IntKind.i64 (IntKind.i64.wrap (i + (1 : Int)))), ((2 : Nat), V.bool false)], hp := [], nx := (0 : Nat), ob := true, n := (18 : Nat) })
 else none
 else
 some
 (Ex.exit (0 : Nat), { sl := [((2 : Nat), V.bool false)], hp := [], nx := (0 : Nat), ob := true, n := (18 : Nat) }) := by kernel_rfl

theorem by_loop : LoopOk Tryz.prog byC.erase [] byG := by
  refine loop_ok Esr0_ok (d := 6) (AC.flat_ok (by kernel_rfl)) [5, 6, 7, 2] [2] [] byG (X := List V × Int × Int) (fun x => bySt x.1 x.2.1 x.2.2) (fun x => byT (x.1.drop x.2.2.toNat))
    (fun x => x.2.1 = x.1.length ∧ 0 ≤ x.2.2 ∧ x.2.2 ≤ x.2.1 ∧ x.2.1 ≤ 4611686018427387904) (fun x => (x.2.1 - x.2.2).toNat) ?_ ?_
  · intro s t h
    obtain ⟨h1, h2, h3, h⟩ := gOf_spec h
    split at h
    · rename_i l n i q1 q2 q3 q4
      injection h with h; injection h with hc ht
      exact ⟨(l, n, i), .one h1 h2 (by simp [q1, q2, q3, q4]) (by simp), of_decide_eq_true hc, ht.symm⟩
    · cases h
  · rintro ⟨l, n, i⟩ ⟨hn, h0, h1, hM⟩
    simp only at hn h0 h1 hM ⊢
    subst hn
    rw [byteful_b]
    obtain ⟨k, rfl⟩ := Int.eq_ofNat_of_zero_le h0
    simp only [Int.toNat_natCast]
    by_cases hlt : k < l.length
    · have hd := drop_next (d := V.undef) hlt
      cases hv : byO (l.getD k .undef) with
      | true =>
        have hv' : 0 ≤ toI (l.getD k .undef) ∧ toI (l.getD k .undef) ≤ 255 := by simpa [byO] using hv
        refine .inl ⟨(l, l.length, k + 1), ?_, ⟨rfl, by dsimp only; omega, by dsimp only; omega, hM⟩, by dsimp only; omega, leaf_eq ?_⟩
        · simp (disch := omega) only [dec_t, dec_f, inB_t, inC_t, andT_t, cond_true, cond_false, Bool.and_true, Bool.true_and, w64, wu32, wu8, nble_t, nblt_t, Bool.not_true, Bool.not_false, Bool.not_not]
          rfl
        · show byT (l.drop (k + 1)) = byT (l.drop k)
          rw [hd]
          simp only [byT, byB, List.all_cons, hv, Bool.true_and]
      | false =>
        have hv' : ¬ (0 ≤ toI (l.getD k .undef) ∧ toI (l.getD k .undef) ≤ 255) := by simpa [byO] using hv
        refine .inr ⟨.ret, byX false, ?_, nofun, leaf_f (by rw [hd]; simp only [byB, List.all_cons, hv, Bool.false_and]) .leaf⟩
        by_cases h3 : toI (l.getD k .undef) < 0
        · simp (disch := omega) only [dec_t, dec_f, inB_t, inC_t, andT_t, cond_true, cond_false, Bool.and_true, Bool.true_and, w64, wu32, wu8, nble_t, nblt_t, Bool.not_true, Bool.not_false, Bool.not_not]
          rfl
        · simp (disch := omega) only [dec_t, dec_f, inB_t, inC_t, andT_t, cond_true, cond_false, Bool.and_true, Bool.true_and, w64, wu32, wu8, nble_t, nblt_t, Bool.not_true, Bool.not_false, Bool.not_not]
          rfl
    · refine .inr ⟨.exit 0, byX false, ?_, nofun, leaf_t (by simp [byB, List.drop_of_length_le (show l.length ≤ k by omega)]) .leaf⟩
      simp (disch := omega) only [dec_t, dec_f, inB_t, inC_t, andT_t, cond_true, cond_false, Bool.and_true, Bool.true_and, w64, wu32, wu8, nble_t, nblt_t, Bool.not_true, Bool.not_false, Bool.not_not]
      rfl
theorem af_byteful_ok : AllOk Tryz.prog 135 af_byteful := .sums Tryz.func135 (by kernel_rfl) (by kernel_rfl) (by kernel_rfl) (by kernel_rfl) (sums_one (c := byC) (ts := [5, 6, 7, 2]) (by kernel_rfl) (by kernel_rfl) by_loop)
theorem byteful_t (l : List V) : callV Esr0 af_byteful [.rows (.int .i64) l] =
 bif
 decide
 ((↑l.length : Int) = (↑l.length : Int) ∧
 (0 : Int) ≤ (0 : Int) ∧ (0 : Int) ≤ (↑l.length : Int) ∧ (↑l.length : Int) ≤ (4611686018427387904 : Int)) then
 bif byB (List.drop (0 : Nat) l) then some (V.bool true) else some (V.bool false)
 else none := by kernel_rfl

theorem byteful_v (l : List V) (h : l.length ≤ 4611686018427387904) : callV Esr0 af_byteful [.rows (.int .i64) l] = some (.bool (byB l)) := by
  rw [byteful_t, List.drop_zero]
  simp (disch := omega) only [dec_t, dec_f, inB_t, inC_t, andT_t, cond_true, cond_false, Bool.and_true, Bool.true_and, w64, wu32, wu8, nble_t, nblt_t, Bool.not_true, Bool.not_false, Bool.not_not, ieq_t, ieq_f, ine_t, ine_f, true_and, and_true, andT_l]
  cases byB l <;> rfl
def cByteful : List V → Option (V × Bool)
  | [.rows (.int .i64) l] => some (.bool (byB l), decide (l.length ≤ 4611686018427387904))
  | _ => none
theorem byteful_con : ∀ vs v, cByteful vs = some (v, true) → SpecV Tryz.prog 135 vs v := by
  intro vs v h; unfold cByteful at h; split at h
  · rename_i l
    injection h with h; injection h with h hb; subst h
    exact callV_ok Esr0_ok af_byteful_ok (byteful_v l (of_decide_eq_true hb))
  · cases h
noncomputable def af_wHas : AF := afOf Tryz.prog Tryz.f136 []
theorem af_wHas_ok : AllOk Tryz.prog 136 af_wHas := .flat Tryz.func136 (by kernel_rfl) (by kernel_rfl) (by kernel_rfl) (by kernel_rfl) (by kernel_rfl)
noncomputable def af_wCan : AF := afOf Tryz.prog Tryz.f111 []
theorem af_wCan_ok : AllOk Tryz.prog 111 af_wCan := .flat Tryz.func111 (by kernel_rfl) (by kernel_rfl) (by kernel_rfl) (by kernel_rfl) (by kernel_rfl)
noncomputable def af_rSrhCan : AF := afOf Tryz.prog Tryz.f87 [.unr 5]
theorem af_rSrhCan_ok : AllOk Tryz.prog 87 af_rSrhCan := .flat Tryz.func87 (by kernel_rfl) (by kernel_rfl) (by kernel_rfl) (by kernel_rfl) (by kernel_rfl)
noncomputable def GEsrb : List (Nat × Con) := [(120, .val [.rows (.agg [.int .i64, .bytes])] cTlvCan)]

theorem GEsrb_ok : GOk Tryz.prog GEsrb := .cons (enters_of Tryz.func120 (by kernel_rfl) rfl) rTlvCan_con <| .nil

noncomputable def IEsrb : List (Nat × AF) := []

theorem IEsrb_ok : IOk Tryz.prog IEsrb := .nil

noncomputable def CEsrb : List (Nat × (List Nat × (S → Option (Bool × Tr)))) := []
theorem CEsrb_ok : COk Tryz.prog CEsrb := .nil
noncomputable def XEsrb : List (Nat × (List Sh × (List V → PT))) := []
theorem XEsrb_ok : XOk Tryz.prog XEsrb := .nil
noncomputable def Esrb : Env := ⟨Tryz.prog, GEsrb, IEsrb, CEsrb, XEsrb⟩
theorem Esrb_ok : EnvOk Esrb := ⟨by kernel_rfl, GEsrb_ok, IEsrb_ok, CEsrb_ok, XEsrb_ok⟩
def srC (nx lf fl tg : Int) (s t : List V) : Int := if (0 ≤ nx ∧ nx ≤ 255) ∧ (0 ≤ lf ∧ lf ≤ 255) ∧ (0 ≤ fl ∧ fl ≤ 255) ∧ (0 ≤ tg ∧ tg ≤ 65535) then (if s.length < 1 ∨ 10 < s.length then 8 else if (s.length : Int) ≤ lf then 5 else can 256 (tls t)) else 2
theorem byB_t {a b c : Int} (h1 : 0 ≤ a ∧ a ≤ 255) (h2 : 0 ≤ b ∧ b ≤ 255) (h3 : 0 ≤ c ∧ c ≤ 255) : byB [.int .i64 a, .int .i64 b, .int .i64 c] = true := by
  simp [byB, byO, toI, h1, h2, h3]
theorem byB_f {a b c : Int} (h : ¬ ((0 ≤ a ∧ a ≤ 255) ∧ (0 ≤ b ∧ b ≤ 255) ∧ (0 ≤ c ∧ c ≤ 255))) : byB [.int .i64 a, .int .i64 b, .int .i64 c] = false := by
  show ((decide (0 ≤ a) && decide (a ≤ 255)) && ((decide (0 ≤ b) && decide (b ≤ 255)) && ((decide (0 ≤ c) && decide (c ≤ 255)) && true))) = false
  cases e : ((decide (0 ≤ a) && decide (a ≤ 255)) && ((decide (0 ≤ b) && decide (b ≤ 255)) && ((decide (0 ≤ c) && decide (c ≤ 255)) && true))) with
  | false => rfl
  | true =>
    simp only [Bool.and_eq_true, decide_eq_true_eq, and_true] at e
    exact absurd e h
def eI (n : Int) : Option V := some (.int .i64 n)
theorem rSrhCan_t (nx lf fl tg : Int) (s t : List V) : callV Esrb af_rSrhCan [.agg [.int .i64 nx, .int .i64 lf, .int .i64 fl, .int .i64 tg, .rows (.barr 16) s, .rows (.agg [.int .i64, .bytes]) t]] =
 bif decide (nx < 0) then eI 2 else bif decide (nx > 65535) then eI 2 else bif decide (nx > 255) then eI 2 else
 bif decide (lf < 0) then eI 2 else bif decide (lf > 65535) then eI 2 else bif decide (lf > 255) then eI 2 else
 bif decide (fl < 0) then eI 2 else bif decide (fl > 65535) then eI 2 else bif decide (fl > 255) then eI 2 else
 bif decide (tg < 0) then eI 2 else bif decide (tg > 65535) then eI 2 else
 bif (s.length : Int) == 0 then eI 8 else bif decide ((s.length : Int) > 10) then eI 8 else
 bif decide (lf ≥ (s.length : Int)) then eI 5 else bif andT true (decide (t.length ≤ 4611686018427387904)) then eI (can 256 (tls t)) else none := by kernel_rfl
theorem rSrhCan_v (nx lf fl tg : Int) (s t : List V) (h : t.length ≤ 4611686018427387904) : callV Esrb af_rSrhCan [.agg [.int .i64 nx, .int .i64 lf, .int .i64 fl, .int .i64 tg, .rows (.barr 16) s, .rows (.agg [.int .i64, .bytes]) t]] = some (.int .i64 (srC nx lf fl tg s t)) := by
  rw [rSrhCan_t]
  unfold srC
  by_cases h0 : (0 ≤ nx ∧ nx ≤ 255) ∧ (0 ≤ lf ∧ lf ≤ 255) ∧ (0 ≤ fl ∧ fl ≤ 255) ∧ (0 ≤ tg ∧ tg ≤ 65535)
  · rw [if_pos h0]
    by_cases h2 : s.length < 1 ∨ 10 < s.length
    · rw [if_pos h2]
      by_cases h3 : s.length < 1
      · simp (disch := omega) only [dec_t, dec_f, inB_t, inC_t, andT_t, cond_true, cond_false, Bool.and_true, Bool.true_and, w64, wu32, wu8, nble_t, nblt_t, Bool.not_true, Bool.not_false, Bool.not_not, ieq_t, ieq_f, ine_t, ine_f, true_and, and_true, andT_l]
        rfl
      · simp (disch := omega) only [dec_t, dec_f, inB_t, inC_t, andT_t, cond_true, cond_false, Bool.and_true, Bool.true_and, w64, wu32, wu8, nble_t, nblt_t, Bool.not_true, Bool.not_false, Bool.not_not, ieq_t, ieq_f, ine_t, ine_f, true_and, and_true, andT_l]
        rfl
    · rw [if_neg h2]
      by_cases h3 : (s.length : Int) ≤ lf
      · rw [if_pos h3]
        simp (disch := omega) only [dec_t, dec_f, inB_t, inC_t, andT_t, cond_true, cond_false, Bool.and_true, Bool.true_and, w64, wu32, wu8, nble_t, nblt_t, Bool.not_true, Bool.not_false, Bool.not_not, ieq_t, ieq_f, ine_t, ine_f, true_and, and_true, andT_l]
        rfl
      · rw [if_neg h3]
        simp (disch := omega) only [dec_t, dec_f, inB_t, inC_t, andT_t, cond_true, cond_false, Bool.and_true, Bool.true_and, w64, wu32, wu8, nble_t, nblt_t, Bool.not_true, Bool.not_false, Bool.not_not, ieq_t, ieq_f, ine_t, ine_f, true_and, and_true, andT_l]
        rfl
  · rw [if_neg h0]
    try simp only [andT_t, andT_f, cond_true, cond_false, Bool.and_true, Bool.true_and, beq_self_eq_true]
    repeat' (refine bcase (fun hbc => ?_) (fun hbc => ?_))
    all_goals try simp only [decide_eq_true_eq, beq_iff_eq, bne_iff_ne, ne_eq, Bool.and_eq_true, andT_and, inB_iff, inC_iff, nble_iff, nblt_iff, decide_eq_false_iff_not, Bool.not_eq_true', Bool.not_eq_false', beq_eq_false_iff_ne, bne_eq_false_iff_eq, Bool.true_and, Bool.and_true, inB_iff_f, inC_iff_f, nble_iff_f, Bool.or_eq_true, Bool.not_eq_true, Decidable.not_not] at *
    all_goals first | rfl | (exfalso; omega)
def cSrhCan : List V → Option (V × Bool)
  | [.agg [.int .i64 nx, .int .i64 lf, .int .i64 fl, .int .i64 tg, .rows (.barr 16) s, .rows (.agg [.int .i64, .bytes]) t]] => some (.int .i64 (srC nx lf fl tg s t), decide (t.length ≤ 4611686018427387904))
  | _ => none
theorem rSrhCan_con : ∀ vs v, cSrhCan vs = some (v, true) → SpecV Tryz.prog 87 vs v := by
  intro vs v h; unfold cSrhCan at h; split at h
  · rename_i nx lf fl tg s t
    injection h with h; injection h with h hb; subst h
    exact callV_ok Esrb_ok af_rSrhCan_ok (rSrhCan_v nx lf fl tg s t (of_decide_eq_true hb))
  · cases h
end Go.Proofs.YtbojofchpnfnlaaGreat

namespace Go.Proofs.YtbojofchpnfnlaaGreat
open Go Go.Am Go.RowKit Go.Mix Go.Bas
set_option maxRecDepth 100000
/-- a routing header as a value -/
structure Hd where
  (nx lf fl tg : Int)
  (s t : List V)
def Hd.v (h : Hd) : V := .agg [.int .i64 h.nx, .int .i64 h.lf, .int .i64 h.fl, .int .i64 h.tg, .rows (.barr 16) h.s, .rows (.agg [.int .i64, .bytes]) h.t]
def shH : Sh := .agg [.int .i64, .int .i64, .int .i64, .int .i64, .rows (.barr 16), .rows (.agg [.int .i64, .bytes])]
def segB (v : V) : List UInt8 := cutL (toA v) 0 16
def seg2 (v : V) : List UInt8 := (List.range 16).map fun j => u8 (gt (toA v) j)
def sgf (f : V → List UInt8) : List V → List UInt8
  | [] => []
  | v :: r => f v ++ sgf f r
def sgs (l : List V) : List UInt8 := sgf segB l
def sgs2 (l : List V) : List UInt8 := sgf seg2 l
theorem segB_len (v : V) : (segB v).length ≤ 16 := by unfold segB; rw [length_cutL]; omega
theorem sgs_len : ∀ l : List V, (sgs l).length ≤ 16 * l.length
  | [] => by simp [sgs, sgf]
  | v :: r => by
    have := segB_len v
    have := sgs_len r
    simp only [sgs, sgf, List.length_append, List.length_cons] at *
    omega
theorem sgs_next {l : List V} {k : Nat} (h : k < l.length) : sgs (l.drop k) = segB (l.getD k .undef) ++ sgs (l.drop (k + 1)) := by
  rw [drop_next (d := V.undef) h]; rfl
theorem sgs2_next {l : List V} {k : Nat} (h : k < l.length) : sgs2 (l.drop k) = seg2 (l.getD k .undef) ++ sgs2 (l.drop (k + 1)) := by
  rw [drop_next (d := V.undef) h]; rfl
def spW (sh : Sh) (h : Hd) (d b : List UInt8) : List (Nat × Option Blk) := [(0, some (.var sh (.agg [h.v, .own 2 d.length (.int .u8)]))), (1, some (.row 5 (.int .u8) (.bytes b))), (2, some (.row 5 (.int .u8) (.bytes d)))]
def spSt (s1 s2 : Sh) (h : Hd) (d : List UInt8) (l : List V) (n i : Int) (b : List UInt8) : S := ⟨[(4, .ref 0 [] 0 s1), (86, .rows (.barr 16) l), (87, .int .i64 n), (88, .int .i64 i), (7, .own 1 b.length (.int .u8))], spW s2 h d b, 3, true, 102⟩
def spX (s1 s2 : Sh) (h : Hd) (d b : List UInt8) : S := ⟨[(4, .ref 0 [] 0 s1), (7, .own 1 b.length (.int .u8))], spW s2 h d b, 3, true, 102⟩
abbrev spI (l : List V) (n i : Int) (b : List UInt8) : Prop := n = l.length ∧ 0 ≤ i ∧ i ≤ n ∧ n ≤ 1000 ∧ (b.length : Int) + 16 * (n - i) ≤ 1000000
def spT (s1 s2 : Sh) (h : Hd) (d : List UInt8) (l : List V) (b : List UInt8) : Tr := .leaf (.exit 0) (spX s1 s2 h d (b ++ sgs l))
def spG : S → Option (Bool × Tr) := gOf 102 3 fun sl hp => match sl 4, sl 86, sl 87, sl 88, sl 7, hp 0, hp 1, hp 2 with
  | some (.ref 0 [] 0 s1), some (.rows (.barr 16) l), some (.int .i64 n), some (.int .i64 i), some (.own 1 m (.int .u8)),
    some (.var s2 (.agg [.agg [.int .i64 nx, .int .i64 lf, .int .i64 fl, .int .i64 tg, .rows (.barr 16) s, .rows (.agg [.int .i64, .bytes]) t], .own 2 k (.int .u8)])),
    some (.row T (.int .u8) (.bytes b)), some (.row T' (.int .u8) (.bytes d)) =>
      some (decide (m = b.length ∧ k = d.length ∧ T = 5 ∧ T' = 5 ∧ spI l n i b), spT s1 s2 ⟨nx, lf, fl, tg, s, t⟩ d (l.drop i.toNat) b)
  | _, _, _, _, _, _, _, _ => none
noncomputable def af_srhPut : AF := afOf Tryz.prog Tryz.f73 [.sum [4, 86, 87, 88, 7] [] spG]
noncomputable def spC : AC := (af_srhPut.ac.sums.headD (.skip, [], [], fun _ => none)).1
noncomputable def af_Put16 : AF := afOf Tryz.prog Tryz.f103 []
theorem af_Put16_ok : AllOk Tryz.prog 103 af_Put16 := .flat Tryz.func103 (by kernel_rfl) (by kernel_rfl) (by kernel_rfl) (by kernel_rfl) (by kernel_rfl)
noncomputable def af_otwo : AF := afOf Tryz.prog Tryz.f131 []
theorem af_otwo_ok : AllOk Tryz.prog 131 af_otwo := .flat Tryz.func131 (by kernel_rfl) (by kernel_rfl) (by kernel_rfl) (by kernel_rfl) (by kernel_rfl)
noncomputable def GEsrc : List (Nat × Con) := [(135, .val [.rows (.int .i64)] cByteful), (137, .val [.rows (.agg [.int .i64, .bytes])] cTlvCan), (112, .val [.rows (.agg [.int .i64, .bytes])] cTlvPut), (88, .val [.rows (.agg [.int .i64, .bytes])] cTlvPut), (87, .val [.agg [.int .i64, .int .i64, .int .i64, .int .i64, .rows (.barr 16), .rows (.agg [.int .i64, .bytes])]] cSrhCan), (89, .val [.int .i64] cTwo)]

theorem GEsrc_ok : GOk Tryz.prog GEsrc := .cons (enters_of Tryz.func135 (by kernel_rfl) rfl) byteful_con <| .cons (enters_of Tryz.func137 (by kernel_rfl) rfl) tlvCan_con <| .cons (enters_of Tryz.func112 (by kernel_rfl) rfl) tlvPut_con <| .cons (enters_of Tryz.func88 (by kernel_rfl) rfl) rTlvPut_con <| .cons (enters_of Tryz.func87 (by kernel_rfl) rfl) rSrhCan_con <| .cons (enters_of Tryz.func89 (by kernel_rfl) rfl) Two_con <| .nil

noncomputable def IEsrc : List (Nat × AF) := [(136, af_wHas), (111, af_wCan), (103, af_Put16), (131, af_otwo)]
theorem IEsrc_ok : IOk Tryz.prog IEsrc := .cons af_wHas_ok <| .cons af_wCan_ok <| .cons af_Put16_ok <| .cons af_otwo_ok <| .nil
noncomputable def CEsrc : List (Nat × (List Nat × (S → Option (Bool × Tr)))) := []
theorem CEsrc_ok : COk Tryz.prog CEsrc := .nil
noncomputable def XEsrc : List (Nat × (List Sh × (List V → PT))) := []
theorem XEsrc_ok : XOk Tryz.prog XEsrc := .nil
noncomputable def Esrc : Env := ⟨Tryz.prog, GEsrc, IEsrc, CEsrc, XEsrc⟩
theorem Esrc_ok : EnvOk Esrc := ⟨by kernel_rfl, GEsrc_ok, IEsrc_ok, CEsrc_ok, XEsrc_ok⟩
theorem srhPut_b (s1 s2 : Sh) (h : Hd) (d : List UInt8) (l : List V) (n i : Int) (b : List UInt8) : aev Esrc (inlN Esrc 6) spC (bodyK [4, 86, 87, 88, 7] [4, 7] []) (spSt s1 s2 h d l n i b) =
 bif decide (i < n) then bif andT true (inB i l.length) then
 bif andT true (((b ++ segB (l.getD i.toNat .undef)).length * 1).ble 140737488355328) then some (.normal, spSt s1 s2 h d l n (IntKind.i64.wrap (i + 1)) (b ++ segB (l.getD i.toNat .undef))) else none
 else none else some (.exit 0, spX s1 s2 h d b) := by kernel_rfl
structure SpS where
  (s1 s2 : Sh)
  (h : Hd)
  (d : List UInt8)
  (l : List V)
  (n i : Int)
  (b : List UInt8)
theorem sp_loop : LoopOk Tryz.prog spC.erase [] spG := by
  refine loop_ok Esrc_ok (d := 6) (AC.flat_ok (by kernel_rfl)) [4, 86, 87, 88, 7] [4, 7] [] spG (X := SpS) (fun x => spSt x.s1 x.s2 x.h x.d x.l x.n x.i x.b) (fun x => spT x.s1 x.s2 x.h x.d (x.l.drop x.i.toNat) x.b) (fun x => spI x.l x.n x.i x.b) (fun x => (x.n - x.i).toNat) ?_ ?_
  · intro s t h
    obtain ⟨h1, h2, h3, h⟩ := gOf_spec h
    split at h
    · rename_i s1 l n i m s2 nx lf fl tg ss tt k T b T' d q1 q2 q3 q4 q5 q6 q7 q8
      injection h with h; injection h with hc ht
      obtain ⟨c1, c2, c3, c4, c5⟩ := of_decide_eq_true hc
      subst c1; subst c2; subst c3; subst c4
      exact ⟨⟨s1, s2, ⟨nx, lf, fl, tg, ss, tt⟩, d, l, n, i, b⟩, .one h1 h2 (by simp [q1, q2, q3, q4, q5]) (by simp [spW, q6, q7, q8, Hd.v]), c5, ht.symm⟩
    · cases h
  · rintro ⟨s1, s2, h, d, l, n, i, b⟩ ⟨hn, h0, h1, hM, hb⟩
    simp only at hn h0 h1 hM hb ⊢
    subst hn
    rw [srhPut_b]
    obtain ⟨k, rfl⟩ := Int.eq_ofNat_of_zero_le h0
    simp only [Int.toNat_natCast]
    by_cases hlt : k < l.length
    · have hd := sgs_next hlt
      have hs := segB_len (l.getD k .undef)
      have hl : (b ++ segB (l.getD k .undef)).length = b.length + (segB (l.getD k .undef)).length := List.length_append
      refine .inl ⟨⟨s1, s2, h, d, l, l.length, k + 1, b ++ segB (l.getD k .undef)⟩, ?_, ⟨rfl, by dsimp only; omega, by dsimp only; omega, hM, by dsimp only; omega⟩, by dsimp only; omega, leaf_eq ?_⟩
      · simp (disch := omega) only [dec_t, dec_f, inB_t, inC_t, andT_t, cond_true, cond_false, Bool.and_true, Bool.true_and, w64, wu32, wu8, nble_t, nblt_t, Bool.not_true, Bool.not_false, Bool.not_not, ieq_t, ieq_f, ine_t, ine_f, true_and, and_true, andT_l]
      · show spT s1 s2 h d (l.drop (k + 1)) (b ++ segB (l.getD k .undef)) = spT s1 s2 h d (l.drop k) b
        unfold spT
        rw [hd, List.append_assoc]
    · have hd : sgs (l.drop k) = [] := by rw [List.drop_of_length_le (by omega)]; rfl
      refine .inr ⟨.exit 0, spX s1 s2 h d b, ?_, nofun, by unfold spT; rw [hd, List.append_nil]; exact .leaf⟩
      simp (disch := omega) only [dec_t, dec_f, inB_t, inC_t, andT_t, cond_true, cond_false, Bool.and_true, Bool.true_and, w64, wu32, wu8, nble_t, nblt_t, Bool.not_true, Bool.not_false, Bool.not_not, ieq_t, ieq_f, ine_t, ine_f, true_and, and_true, andT_l]
theorem af_srhPut_ok : AllOk Tryz.prog 73 af_srhPut := .sums Tryz.func73 (by kernel_rfl) (by kernel_rfl) (by kernel_rfl) (by kernel_rfl) (sums_one (c := spC) (ts := [4, 86, 87, 88, 7]) (by kernel_rfl) (by kernel_rfl) sp_loop)
def h6 (h : Hd) (q : Int) : List UInt8 := [u8 (IntKind.u8.wrap h.nx), u8 (IntKind.u8.wrap q), u8 4, u8 (IntKind.u8.wrap h.lf), u8 (IntKind.u8.wrap (IntKind.i64.wrap ((h.s.length : Int) - 1))), u8 (IntKind.u8.wrap h.fl)]
def t2 (tg : Int) : List UInt8 := [u8 (gt [u8 (IntKind.u8.wrap (tg.fdiv 256)), u8 (IntKind.u8.wrap tg)] 0), u8 (gt [u8 (IntKind.u8.wrap (tg.fdiv 256)), u8 (IntKind.u8.wrap tg)] 1)]
def bR (b : List UInt8) (e : Int) : Option V := some (.tup [.ownv 5 (.bytes b), .int .i64 e])
def spQ (h : Hd) : Int := IntKind.i64.wrap (IntKind.i64.wrap ((IntKind.i64.wrap (IntKind.i64.wrap (8 + IntKind.i64.wrap (16 * (h.s.length : Int))) + ((putB (tls h.t)).length : Int))).tdiv 8) - 1)
def spA (h : Hd) : List UInt8 := h6 h (spQ h) ++ t2 h.tg
theorem srhPut_t (h : Hd) : callV Esrc af_srhPut [h.v] =
 bif !(byB [.int .i64 h.nx, .int .i64 h.lf, .int .i64 h.fl]) then bR [] 2 else bif decide (h.tg < 0) then bR [] 2 else bif decide (h.tg > 65535) then bR [] 2 else
 bif decide ((h.s.length : Int) < 1) then bR [] 8 else bif decide ((h.s.length : Int) > 10) then bR [] 8 else
 bif decide (h.lf ≥ 0) then bif !decide (h.lf < (h.s.length : Int)) then bR [] 5 else
 bif andT true (decide (h.t.length ≤ 4611686018427387904)) then bif can 256 (tls h.t) != 0 then bR [] (can 256 (tls h.t)) else
 bif andT true (decide (h.t.length ≤ 4611686018427387904)) then
 bif decide ((spA h).length = (spA h).length ∧ (putB (tls h.t)).length = (putB (tls h.t)).length ∧ (5 : TypeId) = 5 ∧ (5 : TypeId) = 5 ∧ spI h.s h.s.length 0 (spA h)) then
 bif andT true (((spA h ++ sgs h.s ++ putB (tls h.t)).length * 1).ble 140737488355328) then bR (spA h ++ sgs h.s ++ putB (tls h.t)) 0 else none
 else none
 else none
 else none
 else bR [] 5 := by kernel_rfl
end Go.Proofs.YtbojofchpnfnlaaGreat

namespace Go.Proofs.YtbojofchpnfnlaaGreat
open Go Go.Am Go.RowKit Go.Mix Go.Bas
set_option maxRecDepth 100000
theorem seg2_len (v : V) : (seg2 v).length = 16 := by simp [seg2]
/-- rounds that append the bytes of an array, one by one -/
def rnd {α : Type} (chk : Bool) (A : List UInt8) (fin : List UInt8 → Option α) : Nat → Nat → List UInt8 → Option α
  | 0, _, b => fin b
  | m + 1, k, b => bif andT (andT true chk) (((b ++ [u8 (gt A k)]).length * 1).ble 140737488355328) then rnd chk A fin m (k + 1) (b ++ [u8 (gt A k)]) else none
theorem rnd_ok {α : Type} {A : List UInt8} {fin : List UInt8 → Option α} : ∀ (m k : Nat) (b : List UInt8), b.length + m ≤ 140737488355328 → rnd true A fin m k b = fin (b ++ (List.range m).map fun j => u8 (gt A (k + j)))
  | 0, k, b, _ => by simp [rnd]
  | m + 1, k, b, h => by
    have hl : (b ++ [u8 (gt A k)]).length = b.length + 1 := by simp
    rw [rnd, nble_t (by omega)]
    show rnd true A fin m (k + 1) (b ++ [u8 (gt A k)]) = _
    rw [rnd_ok m (k + 1) _ (by omega), List.range_succ_eq_map, List.append_assoc]
    congr 1
    simp [Function.comp_def, Nat.add_assoc, Nat.add_comm 1]
def qpH (s2 : Sh) (h : Hd) (d b : List UInt8) : List (Nat × Option Blk) := [(0, some (.var s2 h.v)), (1, some (.row 5 (.int .u8) (.bytes d))), (2, some (.row 5 (.int .u8) (.bytes b)))]
def qpSt (s2 : Sh) (h : Hd) (d : List UInt8) (i : Int) (b : List UInt8) : S := ⟨[(1, .ref 0 [] 0 shH), (5, .own 1 d.length (.int .u8)), (7, .own 2 b.length (.int .u8)), (8, .int .i64 i)], qpH s2 h d b, 3, true, 74⟩
def qpX (d b : List UInt8) : S := ⟨[(5, .own 0 d.length (.int .u8)), (7, .own 1 b.length (.int .u8))], [(0, some (.row 5 (.int .u8) (.bytes d))), (1, some (.row 5 (.int .u8) (.bytes b)))], 2, true, 74⟩
abbrev qpI (l : List V) (i : Int) (b : List UInt8) : Prop := 0 ≤ i ∧ i ≤ l.length ∧ l.length ≤ 1000 ∧ (b.length : Int) + 16 * (l.length - i) ≤ 1000000
def qpT (d : List UInt8) (l : List V) (b : List UInt8) : Tr := .leaf (.exit 0) (qpX d (b ++ sgs2 l))
def qpG : S → Option (Bool × Tr) := gOf 74 3 fun sl hp => match sl 1, sl 5, sl 7, sl 8, hp 0, hp 1, hp 2 with
  | some (.ref 0 [] 0 (.agg [.int .i64, .int .i64, .int .i64, .int .i64, .rows (.barr 16), .rows (.agg [.int .i64, .bytes])])), some (.own 1 k (.int .u8)), some (.own 2 m (.int .u8)), some (.int .i64 i),
    some (.var s2 (.agg [.int .i64 nx, .int .i64 lf, .int .i64 fl, .int .i64 tg, .rows (.barr 16) s, .rows (.agg [.int .i64, .bytes]) t])),
    some (.row T' (.int .u8) (.bytes d)), some (.row T (.int .u8) (.bytes b)) =>
      some (decide (m = b.length ∧ k = d.length ∧ T = 5 ∧ T' = 5 ∧ qpI s i b), qpT d (s.drop i.toNat) b)
  | _, _, _, _, _, _, _ => none
noncomputable def af_rSrhPut : AF := afOf Tryz.prog Tryz.f49 [.unr 17, .sum [1, 5, 7, 8] [] qpG]
noncomputable def qpC : AC := (af_rSrhPut.ac.sums.headD (.skip, [], [], fun _ => none)).1
theorem rSrhPut_b (s2 : Sh) (h : Hd) (d : List UInt8) (i : Int) (b : List UInt8) : aev Esrc (inlN Esrc 6) qpC (bodyK [1, 5, 7, 8] [5, 7] []) (qpSt s2 h d i b) =
 bif decide (i < (h.s.length : Int)) then rnd (inB i h.s.length) (toA (h.s.getD i.toNat .undef)) (fun b => some (.normal, qpSt s2 h d (IntKind.i64.wrap (i + 1)) b)) 16 0 b else some (.exit 0, qpX d b) := by kernel_rfl
structure QpS where
  (s2 : Sh)
  (h : Hd)
  (d : List UInt8)
  (i : Int)
  (b : List UInt8)
theorem qp_loop : LoopOk Tryz.prog qpC.erase [] qpG := by
  refine loop_ok Esrc_ok (d := 6) (AC.flat_ok (by kernel_rfl)) [1, 5, 7, 8] [5, 7] [] qpG (X := QpS) (fun x => qpSt x.s2 x.h x.d x.i x.b) (fun x => qpT x.d (x.h.s.drop x.i.toNat) x.b) (fun x => qpI x.h.s x.i x.b) (fun x => (x.h.s.length - x.i).toNat) ?_ ?_
  · intro s t h
    obtain ⟨h1, h2, h3, h⟩ := gOf_spec h
    split at h
    · rename_i k m i s2 nx lf fl tg ss tt T' d T b q1 q2 q3 q4 q5 q6 q7
      injection h with h; injection h with hc ht
      obtain ⟨c1, c2, c3, c4, c5⟩ := of_decide_eq_true hc
      subst c1; subst c2; subst c3; subst c4
      exact ⟨⟨s2, ⟨nx, lf, fl, tg, ss, tt⟩, d, i, b⟩, .one h1 h2 (by simp [q1, q2, q3, q4, shH]) (by simp [qpH, q5, q6, q7, Hd.v]), c5, ht.symm⟩
    · cases h
  · rintro ⟨s2, h, d, i, b⟩ ⟨h0, h1, hM, hb⟩
    simp only at h0 h1 hM hb ⊢
    rw [rSrhPut_b]
    obtain ⟨k, rfl⟩ := Int.eq_ofNat_of_zero_le h0
    simp only [Int.toNat_natCast]
    by_cases hlt : k < h.s.length
    · have hd := sgs2_next hlt
      have hs := seg2_len (h.s.getD k .undef)
      have hl : (b ++ seg2 (h.s.getD k .undef)).length = b.length + (seg2 (h.s.getD k .undef)).length := List.length_append
      refine .inl ⟨⟨s2, h, d, k + 1, b ++ seg2 (h.s.getD k .undef)⟩, ?_, ⟨by dsimp only; omega, by dsimp only; omega, hM, by dsimp only; omega⟩, by dsimp only; omega, leaf_eq ?_⟩
      · rw [inB_t (by omega) (by omega), rnd_ok 16 0 b (by omega)]
        simp only [Nat.zero_add]
        show (bif decide ((k : Int) < h.s.length) then some (Ex.normal, qpSt s2 h d (IntKind.i64.wrap (k + 1)) (b ++ seg2 (h.s.getD k .undef))) else _) = _
        simp (disch := omega) only [dec_t, dec_f, inB_t, inC_t, andT_t, cond_true, cond_false, Bool.and_true, Bool.true_and, w64, wu32, wu8, nble_t, nblt_t, Bool.not_true, Bool.not_false, Bool.not_not, ieq_t, ieq_f, ine_t, ine_f, true_and, and_true, andT_l]
      · show qpT d (h.s.drop (k + 1)) (b ++ seg2 (h.s.getD k .undef)) = qpT d (h.s.drop k) b
        unfold qpT
        rw [hd, List.append_assoc]
    · have hd : sgs2 (h.s.drop k) = [] := by rw [List.drop_of_length_le (by omega)]; rfl
      refine .inr ⟨.exit 0, qpX d b, ?_, nofun, by unfold qpT; rw [hd, List.append_nil]; exact .leaf⟩
      simp (disch := omega) only [dec_t, dec_f, inB_t, inC_t, andT_t, cond_true, cond_false, Bool.and_true, Bool.true_and, w64, wu32, wu8, nble_t, nblt_t, Bool.not_true, Bool.not_false, Bool.not_not, ieq_t, ieq_f, ine_t, ine_f, true_and, and_true, andT_l]
theorem af_rSrhPut_ok : AllOk Tryz.prog 49 af_rSrhPut := .sums Tryz.func49 (by kernel_rfl) (by kernel_rfl) (by kernel_rfl) (by kernel_rfl) (sums_one (c := qpC) (ts := [1, 5, 7, 8]) (by kernel_rfl) (by kernel_rfl) qp_loop)
def rpQ (h : Hd) : Int := IntKind.i64.wrap (IntKind.i64.wrap (2 * (h.s.length : Int)) + IntKind.i64.wrap (((putB (tls h.t)).length : Int).tdiv 8))
def rpA (h : Hd) : List UInt8 := h6 h (rpQ h) ++ two h.tg
theorem rSrhPut_t (h : Hd) : callV Esrc af_rSrhPut [h.v] =
 bif andT true (decide (h.t.length ≤ 4611686018427387904)) then bif srC h.nx h.lf h.fl h.tg h.s h.t != 0 then bR [] (srC h.nx h.lf h.fl h.tg h.s h.t) else
 bif andT true (decide (h.t.length ≤ 4611686018427387904)) then
 bif decide ((rpA h).length = (rpA h).length ∧ (putB (tls h.t)).length = (putB (tls h.t)).length ∧ (5 : TypeId) = 5 ∧ (5 : TypeId) = 5 ∧ qpI h.s 0 (rpA h)) then
 bif andT true (((rpA h ++ sgs2 h.s ++ putB (tls h.t)).length * 1).ble 140737488355328) then bR (rpA h ++ sgs2 h.s ++ putB (tls h.t)) 0 else none
 else none
 else none
 else none := by kernel_rfl
/-! ### what is put -/
def okS (s : List V) : Bool := s.all fun v => Nat.beq (toA v).length 16
theorem u8_nat (x : UInt8) : u8 ((x.toNat : Nat) : Int) = x := by
  unfold u8
  simp
theorem seg2_eq {v : V} (h : (toA v).length = 16) : seg2 v = segB v := by
  unfold seg2 segB
  rw [cutL_zero]
  apply List.ext_getElem
  · simp [h]
  · intro i h1 h2
    simp only [List.getElem_map, List.getElem_range, List.getElem_take]
    simp only [List.length_map, List.length_range] at h1
    rw [gt_of_lt (by omega)]
    exact u8_nat _
theorem sgs2_eq : ∀ {s : List V}, okS s = true → sgs2 s = sgs s
  | [], _ => rfl
  | v :: r, h => by
    unfold okS at h
    rw [List.all_cons, Bool.and_eq_true] at h
    have h1 : (toA v).length = 16 := Nat.eq_of_beq_eq_true h.1
    show seg2 v ++ sgs2 r = segB v ++ sgs r
    rw [seg2_eq h1, sgs2_eq (s := r) h.2]
theorem putB_len (L : List (Int × List UInt8)) : (putB L).length ≤ 600 := by
  by_cases h : can 256 L = 0
  · have he := can_len L 256 h
    have hp := pad_len ((8 - ((enc L).length : Int) % 8) % 8)
    rw [putB_ok h, List.length_append]
    omega
  · rw [putB_no h]
    exact Nat.zero_le _
def hdB (h : Hd) : List UInt8 := [b8 h.nx, b8 (2 * (h.s.length : Int) + (putB (tls h.t)).length / 8), 4, b8 h.lf, b8 ((h.s.length : Int) - 1), b8 h.fl] ++ two h.tg
theorem t2_eq (n : Int) : t2 n = two n := by
  unfold t2 two
  rw [fdv (by decide)]
  exact congr (congrArg List.cons (u8_nat _)) (congrArg (fun x => [x]) (u8_nat _))
theorem h6_eq (h : Hd) (h1 : h.s.length ≤ 10) (q : Int) (hq : q = 2 * (h.s.length : Int) + (putB (tls h.t)).length / 8) : h6 h q = [b8 h.nx, b8 (2 * (h.s.length : Int) + (putB (tls h.t)).length / 8), 4, b8 h.lf, b8 ((h.s.length : Int) - 1), b8 h.fl] := by
  unfold h6
  rw [w64 (by omega) (by omega), hq]
  rfl
theorem tdv {a b : Int} (h : 0 ≤ a) : a.tdiv b = a / b := Int.tdiv_eq_ediv_of_nonneg h
theorem spA_eq (h : Hd) (h1 : h.s.length ≤ 10) : spA h = hdB h := by
  have hl := putB_len (tls h.t)
  unfold spA hdB
  rw [t2_eq, h6_eq h h1]
  unfold spQ
  simp (disch := omega) only [w64, tdv]
  omega
theorem rpA_eq (h : Hd) (h1 : h.s.length ≤ 10) : rpA h = hdB h := by
  have hl := putB_len (tls h.t)
  unfold rpA hdB
  rw [h6_eq h h1]
  unfold rpQ
  simp (disch := omega) only [w64, tdv]
def srP (h : Hd) : List UInt8 := if srC h.nx h.lf h.fl h.tg h.s h.t = 0 then hdB h ++ sgs h.s ++ putB (tls h.t) else []
theorem hdB_len (h : Hd) : (hdB h).length = 8 := rfl
theorem srC_zero {h : Hd} (hz : srC h.nx h.lf h.fl h.tg h.s h.t = 0) : ((0 ≤ h.nx ∧ h.nx ≤ 255) ∧ (0 ≤ h.lf ∧ h.lf ≤ 255) ∧ (0 ≤ h.fl ∧ h.fl ≤ 255) ∧ (0 ≤ h.tg ∧ h.tg ≤ 65535)) ∧ 1 ≤ h.s.length ∧ h.s.length ≤ 10 ∧ h.lf < h.s.length ∧ can 256 (tls h.t) = 0 := by
  unfold srC at hz
  split at hz
  · rename_i h1
    split at hz
    · cases hz
    · split at hz
      · cases hz
      · exact ⟨h1, by omega, by omega, by omega, hz⟩
  · cases hz
theorem srhPut_v (h : Hd) (ht : h.t.length ≤ 4611686018427387904) : callV Esrc af_srhPut [h.v] = bR (srP h) (srC h.nx h.lf h.fl h.tg h.s h.t) := by
  rw [srhPut_t]
  by_cases hz : srC h.nx h.lf h.fl h.tg h.s h.t = 0
  · obtain ⟨⟨a1, a2, a3, a4⟩, b1, b2, b3, b4⟩ := srC_zero hz
    have e1 := sgs_len h.s
    have e2 := putB_len (tls h.t)
    have e3 := hdB_len h
    unfold srP
    rw [if_pos hz, hz, byB_t a1 a2 a3, spA_eq h b2]
    have e4 : (hdB h ++ sgs h.s ++ putB (tls h.t)).length ≤ 1000 := by simp only [List.length_append]; omega
    rw [dec_t (show (hdB h).length = (hdB h).length ∧ (putB (tls h.t)).length = (putB (tls h.t)).length ∧ (5 : TypeId) = 5 ∧ (5 : TypeId) = 5 ∧ spI h.s h.s.length 0 (hdB h) from ⟨rfl, rfl, rfl, rfl, rfl, by omega, by omega, by omega, by omega⟩)]
    simp (disch := omega) only [dec_t, dec_f, inB_t, inC_t, andT_t, cond_true, cond_false, Bool.and_true, Bool.true_and, w64, wu32, wu8, nble_t, nblt_t, Bool.not_true, Bool.not_false, Bool.not_not, ieq_t, ieq_f, ine_t, ine_f, true_and, and_true, andT_l]
  · unfold srP
    rw [if_neg hz]
    unfold srC at hz ⊢
    by_cases h0 : (0 ≤ h.nx ∧ h.nx ≤ 255) ∧ (0 ≤ h.lf ∧ h.lf ≤ 255) ∧ (0 ≤ h.fl ∧ h.fl ≤ 255)
    · rw [byB_t h0.1 h0.2.1 h0.2.2]
      by_cases h1 : 0 ≤ h.tg ∧ h.tg ≤ 65535
      · have h1' : (0 ≤ h.nx ∧ h.nx ≤ 255) ∧ (0 ≤ h.lf ∧ h.lf ≤ 255) ∧ (0 ≤ h.fl ∧ h.fl ≤ 255) ∧ 0 ≤ h.tg ∧ h.tg ≤ 65535 := ⟨h0.1, h0.2.1, h0.2.2, h1⟩
        rw [if_pos h1'] at hz ⊢
        by_cases h2 : h.s.length < 1 ∨ 10 < h.s.length
        · rw [if_pos h2]
          by_cases h3 : h.s.length < 1
          · simp (disch := omega) only [dec_t, dec_f, inB_t, inC_t, andT_t, cond_true, cond_false, Bool.and_true, Bool.true_and, w64, wu32, wu8, nble_t, nblt_t, Bool.not_true, Bool.not_false, Bool.not_not, ieq_t, ieq_f, ine_t, ine_f, true_and, and_true, andT_l]
          · simp (disch := omega) only [dec_t, dec_f, inB_t, inC_t, andT_t, cond_true, cond_false, Bool.and_true, Bool.true_and, w64, wu32, wu8, nble_t, nblt_t, Bool.not_true, Bool.not_false, Bool.not_not, ieq_t, ieq_f, ine_t, ine_f, true_and, and_true, andT_l]
        · rw [if_neg h2] at hz ⊢
          by_cases h3 : (h.s.length : Int) ≤ h.lf
          · rw [if_pos h3]
            simp (disch := omega) only [dec_t, dec_f, inB_t, inC_t, andT_t, cond_true, cond_false, Bool.and_true, Bool.true_and, w64, wu32, wu8, nble_t, nblt_t, Bool.not_true, Bool.not_false, Bool.not_not, ieq_t, ieq_f, ine_t, ine_f, true_and, and_true, andT_l]
          · rw [if_neg h3] at hz ⊢
            simp (disch := omega) only [dec_t, dec_f, inB_t, inC_t, andT_t, cond_true, cond_false, Bool.and_true, Bool.true_and, w64, wu32, wu8, nble_t, nblt_t, Bool.not_true, Bool.not_false, Bool.not_not, ieq_t, ieq_f, ine_t, ine_f, true_and, and_true, andT_l]
      · rw [if_neg (by omega)]
        by_cases h3 : h.tg < 0
        · simp (disch := omega) only [dec_t, dec_f, inB_t, inC_t, andT_t, cond_true, cond_false, Bool.and_true, Bool.true_and, w64, wu32, wu8, nble_t, nblt_t, Bool.not_true, Bool.not_false, Bool.not_not, ieq_t, ieq_f, ine_t, ine_f, true_and, and_true, andT_l]
        · simp (disch := omega) only [dec_t, dec_f, inB_t, inC_t, andT_t, cond_true, cond_false, Bool.and_true, Bool.true_and, w64, wu32, wu8, nble_t, nblt_t, Bool.not_true, Bool.not_false, Bool.not_not, ieq_t, ieq_f, ine_t, ine_f, true_and, and_true, andT_l]
    · rw [byB_f h0, if_neg (by omega)]
      rfl
theorem rSrhPut_v (h : Hd) (ht : h.t.length ≤ 4611686018427387904) (hs : okS h.s = true) : callV Esrc af_rSrhPut [h.v] = bR (srP h) (srC h.nx h.lf h.fl h.tg h.s h.t) := by
  rw [rSrhPut_t]
  by_cases hz : srC h.nx h.lf h.fl h.tg h.s h.t = 0
  · obtain ⟨⟨a1, a2, a3, a4⟩, b1, b2, b3, b4⟩ := srC_zero hz
    have e1 := sgs_len h.s
    have e2 := putB_len (tls h.t)
    have e3 := hdB_len h
    unfold srP
    rw [if_pos hz, hz, rpA_eq h b2, sgs2_eq hs]
    have e4 : (hdB h ++ sgs h.s ++ putB (tls h.t)).length ≤ 1000 := by simp only [List.length_append]; omega
    rw [dec_t (show (hdB h).length = (hdB h).length ∧ (putB (tls h.t)).length = (putB (tls h.t)).length ∧ (5 : TypeId) = 5 ∧ (5 : TypeId) = 5 ∧ qpI h.s 0 (hdB h) from ⟨rfl, rfl, rfl, rfl, by omega, by omega, by omega, by omega⟩)]
    simp (disch := omega) only [dec_t, dec_f, inB_t, inC_t, andT_t, cond_true, cond_false, Bool.and_true, Bool.true_and, w64, wu32, wu8, nble_t, nblt_t, Bool.not_true, Bool.not_false, Bool.not_not, ieq_t, ieq_f, ine_t, ine_f, true_and, and_true, andT_l]
  · unfold srP
    rw [if_neg hz]
    simp (disch := omega) only [dec_t, dec_f, inB_t, inC_t, andT_t, cond_true, cond_false, Bool.and_true, Bool.true_and, w64, wu32, wu8, nble_t, nblt_t, Bool.not_true, Bool.not_false, Bool.not_not, ieq_t, ieq_f, ine_t, ine_f, true_and, and_true, andT_l]
def cSrhPut : List V → Option (V × Bool)
  | [.agg [.int .i64 nx, .int .i64 lf, .int .i64 fl, .int .i64 tg, .rows (.barr 16) s, .rows (.agg [.int .i64, .bytes]) t]] => some (.tup [.ownv 5 (.bytes (srP ⟨nx, lf, fl, tg, s, t⟩)), .int .i64 (srC nx lf fl tg s t)], (decide (t.length ≤ 4611686018427387904) && okS s))
  | _ => none
theorem srhPut_con : ∀ vs v, cSrhPut vs = some (v, true) → SpecV Tryz.prog 73 vs v := by
  intro vs v h; unfold cSrhPut at h; split at h
  · rename_i nx lf fl tg s t
    injection h with h; injection h with h hb; subst h
    exact callV_ok Esrc_ok af_srhPut_ok (srhPut_v ⟨nx, lf, fl, tg, s, t⟩ (of_decide_eq_true ((Bool.and_eq_true _ _).mp hb).1))
  · cases h
theorem rSrhPut_con : ∀ vs v, cSrhPut vs = some (v, true) → SpecV Tryz.prog 49 vs v := by
  intro vs v h; unfold cSrhPut at h; split at h
  · rename_i nx lf fl tg s t
    injection h with h; injection h with h hb; subst h
    exact callV_ok Esrc_ok af_rSrhPut_ok (rSrhPut_v ⟨nx, lf, fl, tg, s, t⟩ (of_decide_eq_true ((Bool.and_eq_true _ _).mp hb).1) ((Bool.and_eq_true _ _).mp hb).2)
  · cases h
end Go.Proofs.YtbojofchpnfnlaaGreat

namespace Go.Proofs.YtbojofchpnfnlaaGreat
open Go Go.Am Go.RowKit Go.Mix Go.Bas
set_option maxRecDepth 100000
theorem okS_of {M : Nat} {s : List V} (h : ∀ y ∈ s, inR M (.barr 16) y = true) : okS s = true := by
  unfold okS
  rw [List.all_eq_true]
  intro y hy
  obtain ⟨l, rfl, hl⟩ := inR_barr (h y hy)
  show Nat.beq l.length 16 = true
  rw [hl]
  rfl
end Go.Proofs.YtbojofchpnfnlaaGreat

namespace Go.Proofs.YtbojofchpnfnlaaGreat
open Go Go.Am Go.RowKit Go.Mix Go.Bas
set_option maxRecDepth 100000
def hE (e : Int) : Option V := some (.tup [.agg [.int .i64 0, .int .i64 0, .int .i64 0, .int .i64 0, .rows (.barr 16) [], .rows (.agg [.int .i64, .bytes]) []], .int .i64 0, .int .i64 e])
end Go.Proofs.YtbojofchpnfnlaaGreat

namespace Go.Proofs.YtbojofchpnfnlaaGreat
open Go Go.Am Go.RowKit Go.Mix Go.Bas
set_option maxRecDepth 100000
end Go.Proofs.YtbojofchpnfnlaaGreat

namespace Go.Proofs.YtbojofchpnfnlaaGreat
open Go Go.Am Go.RowKit Go.Mix Go.Bas
set_option maxRecDepth 100000
/-! ### the reference -/
end Go.Proofs.YtbojofchpnfnlaaGreat

namespace Go.Proofs.YtbojofchpnfnlaaGreat
open Go Go.Am Go.RowKit Go.Mix Go.Bas
set_option maxRecDepth 100000
def shN (b : List UInt8) : Nat := (gt b 4).toNat + 1
def shL (b : List UInt8) : Nat := 8 * ((gt b 1).toNat + 1)
def shT (b : List UInt8) : List UInt8 := cutL b (8 + 16 * shN b) (shL b)
def shE (b : List UInt8) : Int := if b.length < 8 then 3 else if b.length < shL b then 3 else if gt b 2 ≠ 4 then 7 else if 10 < shN b then 8 else if shL b < 8 + 16 * shN b then 5 else if (shN b : Int) ≤ gt b 3 then 5 else peI (parse (shT b))
def zI (e x : Int) : Int := if e = 0 then x else 0
end Go.Proofs.YtbojofchpnfnlaaGreat

namespace Go.Proofs.YtbojofchpnfnlaaGreat
open Go Go.Am Go.RowKit Go.Mix Go.Bas
set_option maxRecDepth 100000
end Go.Proofs.YtbojofchpnfnlaaGreat

namespace Go.Proofs.YtbojofchpnfnlaaGreat
open Go Go.Am Go.RowKit Go.Mix Go.Bas
end Go.Proofs.YtbojofchpnfnlaaGreat

namespace Go.Proofs.YtbojofchpnfnlaaGreat
open Go Go.Am Go.RowKit Go.Mix Go.Bas
set_option maxRecDepth 100000
end Go.Proofs.YtbojofchpnfnlaaGreat
