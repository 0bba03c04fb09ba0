/- Part Gh of the proof: laws used by the law of this claim. -/
import Derived.Test.YtbojofchpnfnlaaProg
import Derived.Test.YtbojofchpnfnlaaGg
import Derived.Test.YtbojofchpnfnlaaGf
set_option linter.all false
namespace Go.Proofs.Ytbojofchpnfnlaa
open Go Go.Am Go.RowKit Go.Mix Go.Bas
set_option maxRecDepth 100000
def byO (v : V) : Bool := decide (0 ≤ toI v) && decide (toI v ≤ 255)
def byB (l : List V) : Bool := l.all byO
def byX (b : Bool) : S := ⟨[(2, .bool b)], [], 0, true, 18⟩
def byT (l : List V) : Tr := .br (byB l) (.leaf (.exit 0) (byX false)) (.leaf .ret (byX false))
def byG : S → Option (Bool × Tr) := gOf 18 0 fun sl _ => match sl 5, sl 6, sl 7, sl 2 with
  | some (.rows (.int .i64) l), some (.int .i64 n), some (.int .i64 i), some (.bool false) => some (decide (n = l.length ∧ 0 ≤ i ∧ i ≤ n ∧ n ≤ 4611686018427387904), byT (l.drop i.toNat))
  | _, _, _, _ => none
noncomputable def af_byteful : AF := afOf Try.prog Try.f187 [.sum [5, 6, 7, 2] [] byG]
noncomputable def byC : AC := (af_byteful.ac.sums.headD (.skip, [], [], fun _ => none)).1
def bySt (l : List V) (n i : Int) : S := ⟨[(5, .rows (.int .i64) l), (6, .int .i64 n), (7, .int .i64 i), (2, .bool false)], [], 0, true, 18⟩
noncomputable def GEsr0 : List (Nat × Con) := []
theorem GEsr0_ok : GOk Try.prog GEsr0 := .nil
noncomputable def IEsr0 : List (Nat × AF) := []
theorem IEsr0_ok : IOk Try.prog IEsr0 := .nil
noncomputable def CEsr0 : List (Nat × (List Nat × (S → Option S))) := []
theorem CEsr0_ok : COk Try.prog CEsr0 := .nil
noncomputable def XEsr0 : List (Nat × (List Sh × (List V → PT))) := []
theorem XEsr0_ok : XOk Try.prog XEsr0 := .nil
noncomputable def Esr0 : Env := ⟨Try.prog, GEsr0, IEsr0, CEsr0, XEsr0⟩
theorem Esr0_ok : EnvOk Esr0 := ⟨by kernel_rfl, GEsr0_ok, IEsr0_ok, CEsr0_ok, XEsr0_ok⟩
theorem byteful_b (l : List V) (n i : Int) : aev Esr0 (inlN Esr0 6) byC (bodyK [5, 6, 7, 2] [2] []) (bySt l n i) =
 bif decide (i < n) then
 bif andT true (inB i l.length) then
 bif decide (toI (l.getD i.toNat V.undef) < (0 : Int)) then
 some (Ex.ret, { sl := [((2 : Nat), V.bool false)], hp := [], nx := (0 : Nat), ob := true, n := (18 : Nat) })
 else
 bif decide (toI (l.getD i.toNat V.undef) > (255 : Int)) then
 some (Ex.ret, { sl := [((2 : Nat), V.bool false)], hp := [], nx := (0 : Nat), ob := true, n := (18 : Nat) })
 else
 some
 (Ex.normal,
 { sl := [((5 : Nat), V.rows (Sh.int IntKind.i64) l), ((6 : Nat), V.int IntKind.i64 n), ((7 : Nat), V.int IntKind.i64 (IntKind.i64.wrap (i + (1 : Int)))), ((2 : Nat), V.bool false)], hp := [], nx := (0 : Nat), ob := true, n := (18 : Nat) })
 else none
 else
 some
 (Ex.exit (0 : Nat), { sl := [((2 : Nat), V.bool false)], hp := [], nx := (0 : Nat), ob := true, n := (18 : Nat) }) := by kernel_rfl

theorem by_loop : LoopOk Try.prog byC.erase [] byG := by
  refine loop_ok Esr0_ok (d := 6) (AC.flat_ok (by kernel_rfl)) [5, 6, 7, 2] [2] [] byG (X := List V × Int × Int) (fun x => bySt x.1 x.2.1 x.2.2) (fun x => byT (x.1.drop x.2.2.toNat))
    (fun x => x.2.1 = x.1.length ∧ 0 ≤ x.2.2 ∧ x.2.2 ≤ x.2.1 ∧ x.2.1 ≤ 4611686018427387904) (fun x => (x.2.1 - x.2.2).toNat) ?_ ?_
  · intro s t h
    obtain ⟨h1, h2, h3, h⟩ := gOf_spec h
    split at h
    · rename_i l n i q1 q2 q3 q4
      injection h with h; injection h with hc ht
      exact ⟨(l, n, i), .one h1 h2 (by simp [q1, q2, q3, q4]) (by simp), of_decide_eq_true hc, ht.symm⟩
    · cases h
  · rintro ⟨l, n, i⟩ ⟨hn, h0, h1, hM⟩
    simp only at hn h0 h1 hM ⊢
    subst hn
    rw [byteful_b]
    obtain ⟨k, rfl⟩ := Int.eq_ofNat_of_zero_le h0
    simp only [Int.toNat_natCast]
    by_cases hlt : k < l.length
    · have hd := drop_next (d := V.undef) hlt
      cases hv : byO (l.getD k .undef) with
      | true =>
        have hv' : 0 ≤ toI (l.getD k .undef) ∧ toI (l.getD k .undef) ≤ 255 := by simpa [byO] using hv
        refine .inl ⟨(l, l.length, k + 1), ?_, ⟨rfl, by dsimp only; omega, by dsimp only; omega, hM⟩, by dsimp only; omega, leaf_eq ?_⟩
        · simp (disch := omega) only [dec_t, dec_f, inB_t, inC_t, andT_t, cond_true, cond_false, Bool.and_true, Bool.true_and, w64, wu32, wu8, nble_t, nblt_t, Bool.not_true, Bool.not_false, Bool.not_not]
          rfl
        · show byT (l.drop (k + 1)) = byT (l.drop k)
          rw [hd]
          simp only [byT, byB, List.all_cons, hv, Bool.true_and]
      | false =>
        have hv' : ¬ (0 ≤ toI (l.getD k .undef) ∧ toI (l.getD k .undef) ≤ 255) := by simpa [byO] using hv
        refine .inr ⟨.ret, byX false, ?_, nofun, leaf_f (by rw [hd]; simp only [byB, List.all_cons, hv, Bool.false_and]) .leaf⟩
        by_cases h3 : toI (l.getD k .undef) < 0
        · simp (disch := omega) only [dec_t, dec_f, inB_t, inC_t, andT_t, cond_true, cond_false, Bool.and_true, Bool.true_and, w64, wu32, wu8, nble_t, nblt_t, Bool.not_true, Bool.not_false, Bool.not_not]
          rfl
        · simp (disch := omega) only [dec_t, dec_f, inB_t, inC_t, andT_t, cond_true, cond_false, Bool.and_true, Bool.true_and, w64, wu32, wu8, nble_t, nblt_t, Bool.not_true, Bool.not_false, Bool.not_not]
          rfl
    · refine .inr ⟨.exit 0, byX false, ?_, nofun, leaf_t (by simp [byB, List.drop_of_length_le (show l.length ≤ k by omega)]) .leaf⟩
      simp (disch := omega) only [dec_t, dec_f, inB_t, inC_t, andT_t, cond_true, cond_false, Bool.and_true, Bool.true_and, w64, wu32, wu8, nble_t, nblt_t, Bool.not_true, Bool.not_false, Bool.not_not]
      rfl
theorem af_byteful_ok : AllOk Try.prog 187 af_byteful := .sums Try.func187 (by kernel_rfl) (by kernel_rfl) (by kernel_rfl) (by kernel_rfl) (sums_one (c := byC) (ts := [5, 6, 7, 2]) (by kernel_rfl) (by kernel_rfl) by_loop)
theorem byteful_t (l : List V) : callV Esr0 af_byteful [.rows (.int .i64) l] =
 bif
 decide
 ((↑l.length : Int) = (↑l.length : Int) ∧
 (0 : Int) ≤ (0 : Int) ∧ (0 : Int) ≤ (↑l.length : Int) ∧ (↑l.length : Int) ≤ (4611686018427387904 : Int)) then
 bif byB (List.drop (0 : Nat) l) then some (V.bool true) else some (V.bool false)
 else none := by kernel_rfl

theorem byteful_v (l : List V) (h : l.length ≤ 4611686018427387904) : callV Esr0 af_byteful [.rows (.int .i64) l] = some (.bool (byB l)) := by
  rw [byteful_t, List.drop_zero]
  simp (disch := omega) only [dec_t, dec_f, inB_t, inC_t, andT_t, cond_true, cond_false, Bool.and_true, Bool.true_and, w64, wu32, wu8, nble_t, nblt_t, Bool.not_true, Bool.not_false, Bool.not_not, ieq_t, ieq_f, ine_t, ine_f, true_and, and_true, andT_l]
  cases byB l <;> rfl
def cByteful : List V → Option (V × Bool)
  | [.rows (.int .i64) l] => some (.bool (byB l), decide (l.length ≤ 4611686018427387904))
  | _ => none
theorem byteful_con : ∀ vs v, cByteful vs = some (v, true) → SpecV Try.prog 187 vs v := by
  intro vs v h; unfold cByteful at h; split at h
  · rename_i l
    injection h with h; injection h with h hb; subst h
    exact callV_ok Esr0_ok af_byteful_ok (byteful_v l (of_decide_eq_true hb))
  · cases h
noncomputable def af_wHas : AF := afOf Try.prog Try.f188 []
theorem af_wHas_ok : AllOk Try.prog 188 af_wHas := .flat Try.func188 (by kernel_rfl) (by kernel_rfl) (by kernel_rfl) (by kernel_rfl) (by kernel_rfl)
noncomputable def af_wCan : AF := afOf Try.prog Try.f169 []
theorem af_wCan_ok : AllOk Try.prog 169 af_wCan := .flat Try.func169 (by kernel_rfl) (by kernel_rfl) (by kernel_rfl) (by kernel_rfl) (by kernel_rfl)
def srC (nx lf fl tg : Int) (s t : List V) : Int := if (0 ≤ nx ∧ nx ≤ 255) ∧ (0 ≤ lf ∧ lf ≤ 255) ∧ (0 ≤ fl ∧ fl ≤ 255) ∧ (0 ≤ tg ∧ tg ≤ 65535) then (if s.length < 1 ∨ 10 < s.length then 8 else if (s.length : Int) ≤ lf then 5 else can 256 (tls t)) else 2
theorem byB_t {a b c : Int} (h1 : 0 ≤ a ∧ a ≤ 255) (h2 : 0 ≤ b ∧ b ≤ 255) (h3 : 0 ≤ c ∧ c ≤ 255) : byB [.int .i64 a, .int .i64 b, .int .i64 c] = true := by
  simp [byB, byO, toI, h1, h2, h3]
theorem byB_f {a b c : Int} (h : ¬ ((0 ≤ a ∧ a ≤ 255) ∧ (0 ≤ b ∧ b ≤ 255) ∧ (0 ≤ c ∧ c ≤ 255))) : byB [.int .i64 a, .int .i64 b, .int .i64 c] = false := by
  show ((decide (0 ≤ a) && decide (a ≤ 255)) && ((decide (0 ≤ b) && decide (b ≤ 255)) && ((decide (0 ≤ c) && decide (c ≤ 255)) && true))) = false
  cases e : ((decide (0 ≤ a) && decide (a ≤ 255)) && ((decide (0 ≤ b) && decide (b ≤ 255)) && ((decide (0 ≤ c) && decide (c ≤ 255)) && true))) with
  | false => rfl
  | true =>
    simp only [Bool.and_eq_true, decide_eq_true_eq, and_true] at e
    exact absurd e h
end Go.Proofs.Ytbojofchpnfnlaa

namespace Go.Proofs.Ytbojofchpnfnlaa
open Go Go.Am Go.RowKit Go.Mix Go.Bas
set_option maxRecDepth 100000
/-- a routing header as a value -/
structure Hd where
  (nx lf fl tg : Int)
  (s t : List V)
def Hd.v (h : Hd) : V := .agg [.int .i64 h.nx, .int .i64 h.lf, .int .i64 h.fl, .int .i64 h.tg, .rows (.barr 16) h.s, .rows (.agg [.int .i64, .bytes]) h.t]
def segB (v : V) : List UInt8 := cutL (toA v) 0 16
def sgf (f : V → List UInt8) : List V → List UInt8
  | [] => []
  | v :: r => f v ++ sgf f r
def sgs (l : List V) : List UInt8 := sgf segB l
theorem segB_len (v : V) : (segB v).length ≤ 16 := by unfold segB; rw [length_cutL]; omega
theorem sgs_len : ∀ l : List V, (sgs l).length ≤ 16 * l.length
  | [] => by simp [sgs, sgf]
  | v :: r => by
    have := segB_len v
    have := sgs_len r
    simp only [sgs, sgf, List.length_append, List.length_cons] at *
    omega
theorem sgs_next {l : List V} {k : Nat} (h : k < l.length) : sgs (l.drop k) = segB (l.getD k .undef) ++ sgs (l.drop (k + 1)) := by
  rw [drop_next (d := V.undef) h]; rfl
def spW (sh : Sh) (h : Hd) (d b : List UInt8) : List (Nat × Option Blk) := [(0, some (.var sh (.agg [h.v, .own 2 d.length (.int .u8)]))), (1, some (.row 5 (.int .u8) (.bytes b))), (2, some (.row 5 (.int .u8) (.bytes d)))]
def spSt (s1 s2 : Sh) (h : Hd) (d : List UInt8) (l : List V) (n i : Int) (b : List UInt8) : S := ⟨[(4, .ref 0 [] 0 s1), (86, .rows (.barr 16) l), (87, .int .i64 n), (88, .int .i64 i), (7, .own 1 b.length (.int .u8))], spW s2 h d b, 3, true, 102⟩
def spX (s1 s2 : Sh) (h : Hd) (d b : List UInt8) : S := ⟨[(4, .ref 0 [] 0 s1), (7, .own 1 b.length (.int .u8))], spW s2 h d b, 3, true, 102⟩
abbrev spI (l : List V) (n i : Int) (b : List UInt8) : Prop := n = l.length ∧ 0 ≤ i ∧ i ≤ n ∧ n ≤ 1000 ∧ (b.length : Int) + 16 * (n - i) ≤ 1000000
def spT (s1 s2 : Sh) (h : Hd) (d : List UInt8) (l : List V) (b : List UInt8) : Tr := .leaf (.exit 0) (spX s1 s2 h d (b ++ sgs l))
def spG : S → Option (Bool × Tr) := gOf 102 3 fun sl hp => match sl 4, sl 86, sl 87, sl 88, sl 7, hp 0, hp 1, hp 2 with
  | some (.ref 0 [] 0 s1), some (.rows (.barr 16) l), some (.int .i64 n), some (.int .i64 i), some (.own 1 m (.int .u8)),
    some (.var s2 (.agg [.agg [.int .i64 nx, .int .i64 lf, .int .i64 fl, .int .i64 tg, .rows (.barr 16) s, .rows (.agg [.int .i64, .bytes]) t], .own 2 k (.int .u8)])),
    some (.row T (.int .u8) (.bytes b)), some (.row T' (.int .u8) (.bytes d)) =>
      some (decide (m = b.length ∧ k = d.length ∧ T = 5 ∧ T' = 5 ∧ spI l n i b), spT s1 s2 ⟨nx, lf, fl, tg, s, t⟩ d (l.drop i.toNat) b)
  | _, _, _, _, _, _, _, _ => none
noncomputable def af_srhPut : AF := afOf Try.prog Try.f137 [.sum [4, 86, 87, 88, 7] [] spG]
noncomputable def spC : AC := (af_srhPut.ac.sums.headD (.skip, [], [], fun _ => none)).1
noncomputable def af_Put16 : AF := afOf Try.prog Try.f57 []
theorem af_Put16_ok : AllOk Try.prog 57 af_Put16 := .flat Try.func57 (by kernel_rfl) (by kernel_rfl) (by kernel_rfl) (by kernel_rfl) (by kernel_rfl)
noncomputable def af_otwo : AF := afOf Try.prog Try.f114 []
theorem af_otwo_ok : AllOk Try.prog 114 af_otwo := .flat Try.func114 (by kernel_rfl) (by kernel_rfl) (by kernel_rfl) (by kernel_rfl) (by kernel_rfl)
noncomputable def GEsrc : List (Nat × Con) := [(187, .val [.rows (.int .i64)] cByteful), (189, .val [.rows (.agg [.int .i64, .bytes])] cTlvCan), (170, .val [.rows (.agg [.int .i64, .bytes])] cTlvPut)]

theorem GEsrc_ok : GOk Try.prog GEsrc := .cons (enters_of Try.func187 (by kernel_rfl) rfl) byteful_con <| .cons (enters_of Try.func189 (by kernel_rfl) rfl) tlvCan_con <| .cons (enters_of Try.func170 (by kernel_rfl) rfl) tlvPut_con <| .nil

noncomputable def IEsrc : List (Nat × AF) := [(188, af_wHas), (169, af_wCan), (57, af_Put16), (114, af_otwo)]
theorem IEsrc_ok : IOk Try.prog IEsrc := .cons af_wHas_ok <| .cons af_wCan_ok <| .cons af_Put16_ok <| .cons af_otwo_ok <| .nil
noncomputable def CEsrc : List (Nat × (List Nat × (S → Option S))) := []
theorem CEsrc_ok : COk Try.prog CEsrc := .nil
noncomputable def XEsrc : List (Nat × (List Sh × (List V → PT))) := []
theorem XEsrc_ok : XOk Try.prog XEsrc := .nil
noncomputable def Esrc : Env := ⟨Try.prog, GEsrc, IEsrc, CEsrc, XEsrc⟩
theorem Esrc_ok : EnvOk Esrc := ⟨by kernel_rfl, GEsrc_ok, IEsrc_ok, CEsrc_ok, XEsrc_ok⟩
theorem srhPut_b (s1 s2 : Sh) (h : Hd) (d : List UInt8) (l : List V) (n i : Int) (b : List UInt8) : aev Esrc (inlN Esrc 6) spC (bodyK [4, 86, 87, 88, 7] [4, 7] []) (spSt s1 s2 h d l n i b) =
 bif decide (i < n) then bif andT true (inB i l.length) then
 bif andT true (((b ++ segB (l.getD i.toNat .undef)).length * 1).ble 140737488355328) then some (.normal, spSt s1 s2 h d l n (IntKind.i64.wrap (i + 1)) (b ++ segB (l.getD i.toNat .undef))) else none
 else none else some (.exit 0, spX s1 s2 h d b) := by kernel_rfl
structure SpS where
  (s1 s2 : Sh)
  (h : Hd)
  (d : List UInt8)
  (l : List V)
  (n i : Int)
  (b : List UInt8)
theorem sp_loop : LoopOk Try.prog spC.erase [] spG := by
  refine loop_ok Esrc_ok (d := 6) (AC.flat_ok (by kernel_rfl)) [4, 86, 87, 88, 7] [4, 7] [] spG (X := SpS) (fun x => spSt x.s1 x.s2 x.h x.d x.l x.n x.i x.b) (fun x => spT x.s1 x.s2 x.h x.d (x.l.drop x.i.toNat) x.b) (fun x => spI x.l x.n x.i x.b) (fun x => (x.n - x.i).toNat) ?_ ?_
  · intro s t h
    obtain ⟨h1, h2, h3, h⟩ := gOf_spec h
    split at h
    · rename_i s1 l n i m s2 nx lf fl tg ss tt k T b T' d q1 q2 q3 q4 q5 q6 q7 q8
      injection h with h; injection h with hc ht
      obtain ⟨c1, c2, c3, c4, c5⟩ := of_decide_eq_true hc
      subst c1; subst c2; subst c3; subst c4
      exact ⟨⟨s1, s2, ⟨nx, lf, fl, tg, ss, tt⟩, d, l, n, i, b⟩, .one h1 h2 (by simp [q1, q2, q3, q4, q5]) (by simp [spW, q6, q7, q8, Hd.v]), c5, ht.symm⟩
    · cases h
  · rintro ⟨s1, s2, h, d, l, n, i, b⟩ ⟨hn, h0, h1, hM, hb⟩
    simp only at hn h0 h1 hM hb ⊢
    subst hn
    rw [srhPut_b]
    obtain ⟨k, rfl⟩ := Int.eq_ofNat_of_zero_le h0
    simp only [Int.toNat_natCast]
    by_cases hlt : k < l.length
    · have hd := sgs_next hlt
      have hs := segB_len (l.getD k .undef)
      have hl : (b ++ segB (l.getD k .undef)).length = b.length + (segB (l.getD k .undef)).length := List.length_append
      refine .inl ⟨⟨s1, s2, h, d, l, l.length, k + 1, b ++ segB (l.getD k .undef)⟩, ?_, ⟨rfl, by dsimp only; omega, by dsimp only; omega, hM, by dsimp only; omega⟩, by dsimp only; omega, leaf_eq ?_⟩
      · simp (disch := omega) only [dec_t, dec_f, inB_t, inC_t, andT_t, cond_true, cond_false, Bool.and_true, Bool.true_and, w64, wu32, wu8, nble_t, nblt_t, Bool.not_true, Bool.not_false, Bool.not_not, ieq_t, ieq_f, ine_t, ine_f, true_and, and_true, andT_l]
      · show spT s1 s2 h d (l.drop (k + 1)) (b ++ segB (l.getD k .undef)) = spT s1 s2 h d (l.drop k) b
        unfold spT
        rw [hd, List.append_assoc]
    · have hd : sgs (l.drop k) = [] := by rw [List.drop_of_length_le (by omega)]; rfl
      refine .inr ⟨.exit 0, spX s1 s2 h d b, ?_, nofun, by unfold spT; rw [hd, List.append_nil]; exact .leaf⟩
      simp (disch := omega) only [dec_t, dec_f, inB_t, inC_t, andT_t, cond_true, cond_false, Bool.and_true, Bool.true_and, w64, wu32, wu8, nble_t, nblt_t, Bool.not_true, Bool.not_false, Bool.not_not, ieq_t, ieq_f, ine_t, ine_f, true_and, and_true, andT_l]
theorem af_srhPut_ok : AllOk Try.prog 137 af_srhPut := .sums Try.func137 (by kernel_rfl) (by kernel_rfl) (by kernel_rfl) (by kernel_rfl) (sums_one (c := spC) (ts := [4, 86, 87, 88, 7]) (by kernel_rfl) (by kernel_rfl) sp_loop)
def h6 (h : Hd) (q : Int) : List UInt8 := [u8 (IntKind.u8.wrap h.nx), u8 (IntKind.u8.wrap q), u8 4, u8 (IntKind.u8.wrap h.lf), u8 (IntKind.u8.wrap (IntKind.i64.wrap ((h.s.length : Int) - 1))), u8 (IntKind.u8.wrap h.fl)]
def t2 (tg : Int) : List UInt8 := [u8 (gt [u8 (IntKind.u8.wrap (tg.fdiv 256)), u8 (IntKind.u8.wrap tg)] 0), u8 (gt [u8 (IntKind.u8.wrap (tg.fdiv 256)), u8 (IntKind.u8.wrap tg)] 1)]
def bR (b : List UInt8) (e : Int) : Option V := some (.tup [.ownv 5 (.bytes b), .int .i64 e])
def spQ (h : Hd) : Int := IntKind.i64.wrap (IntKind.i64.wrap ((IntKind.i64.wrap (IntKind.i64.wrap (8 + IntKind.i64.wrap (16 * (h.s.length : Int))) + ((putB (tls h.t)).length : Int))).tdiv 8) - 1)
def spA (h : Hd) : List UInt8 := h6 h (spQ h) ++ t2 h.tg
theorem srhPut_t (h : Hd) : callV Esrc af_srhPut [h.v] =
 bif !(byB [.int .i64 h.nx, .int .i64 h.lf, .int .i64 h.fl]) then bR [] 2 else bif decide (h.tg < 0) then bR [] 2 else bif decide (h.tg > 65535) then bR [] 2 else
 bif decide ((h.s.length : Int) < 1) then bR [] 8 else bif decide ((h.s.length : Int) > 10) then bR [] 8 else
 bif decide (h.lf ≥ 0) then bif !decide (h.lf < (h.s.length : Int)) then bR [] 5 else
 bif andT true (decide (h.t.length ≤ 4611686018427387904)) then bif can 256 (tls h.t) != 0 then bR [] (can 256 (tls h.t)) else
 bif andT true (decide (h.t.length ≤ 4611686018427387904)) then
 bif decide ((spA h).length = (spA h).length ∧ (putB (tls h.t)).length = (putB (tls h.t)).length ∧ (5 : TypeId) = 5 ∧ (5 : TypeId) = 5 ∧ spI h.s h.s.length 0 (spA h)) then
 bif andT true (((spA h ++ sgs h.s ++ putB (tls h.t)).length * 1).ble 140737488355328) then bR (spA h ++ sgs h.s ++ putB (tls h.t)) 0 else none
 else none
 else none
 else none
 else bR [] 5 := by kernel_rfl
end Go.Proofs.Ytbojofchpnfnlaa

namespace Go.Proofs.Ytbojofchpnfnlaa
open Go Go.Am Go.RowKit Go.Mix Go.Bas
set_option maxRecDepth 100000
/-! ### what is put -/
def okS (s : List V) : Bool := s.all fun v => Nat.beq (toA v).length 16
theorem u8_nat (x : UInt8) : u8 ((x.toNat : Nat) : Int) = x := by
  unfold u8
  simp
theorem putB_len (L : List (Int × List UInt8)) : (putB L).length ≤ 600 := by
  by_cases h : can 256 L = 0
  · have he := can_len L 256 h
    have hp := pad_len ((8 - ((enc L).length : Int) % 8) % 8)
    rw [putB_ok h, List.length_append]
    omega
  · rw [putB_no h]
    exact Nat.zero_le _
def hdB (h : Hd) : List UInt8 := [b8 h.nx, b8 (2 * (h.s.length : Int) + (putB (tls h.t)).length / 8), 4, b8 h.lf, b8 ((h.s.length : Int) - 1), b8 h.fl] ++ two h.tg
theorem t2_eq (n : Int) : t2 n = two n := by
  unfold t2 two
  rw [fdv (by decide)]
  exact congr (congrArg List.cons (u8_nat _)) (congrArg (fun x => [x]) (u8_nat _))
theorem h6_eq (h : Hd) (h1 : h.s.length ≤ 10) (q : Int) (hq : q = 2 * (h.s.length : Int) + (putB (tls h.t)).length / 8) : h6 h q = [b8 h.nx, b8 (2 * (h.s.length : Int) + (putB (tls h.t)).length / 8), 4, b8 h.lf, b8 ((h.s.length : Int) - 1), b8 h.fl] := by
  unfold h6
  rw [w64 (by omega) (by omega), hq]
  rfl
theorem tdv {a b : Int} (h : 0 ≤ a) : a.tdiv b = a / b := Int.tdiv_eq_ediv_of_nonneg h
theorem spA_eq (h : Hd) (h1 : h.s.length ≤ 10) : spA h = hdB h := by
  have hl := putB_len (tls h.t)
  unfold spA hdB
  rw [t2_eq, h6_eq h h1]
  unfold spQ
  simp (disch := omega) only [w64, tdv]
  omega
def srP (h : Hd) : List UInt8 := if srC h.nx h.lf h.fl h.tg h.s h.t = 0 then hdB h ++ sgs h.s ++ putB (tls h.t) else []
theorem hdB_len (h : Hd) : (hdB h).length = 8 := rfl
theorem srC_zero {h : Hd} (hz : srC h.nx h.lf h.fl h.tg h.s h.t = 0) : ((0 ≤ h.nx ∧ h.nx ≤ 255) ∧ (0 ≤ h.lf ∧ h.lf ≤ 255) ∧ (0 ≤ h.fl ∧ h.fl ≤ 255) ∧ (0 ≤ h.tg ∧ h.tg ≤ 65535)) ∧ 1 ≤ h.s.length ∧ h.s.length ≤ 10 ∧ h.lf < h.s.length ∧ can 256 (tls h.t) = 0 := by
  unfold srC at hz
  split at hz
  · rename_i h1
    split at hz
    · cases hz
    · split at hz
      · cases hz
      · exact ⟨h1, by omega, by omega, by omega, hz⟩
  · cases hz
theorem srhPut_v (h : Hd) (ht : h.t.length ≤ 4611686018427387904) : callV Esrc af_srhPut [h.v] = bR (srP h) (srC h.nx h.lf h.fl h.tg h.s h.t) := by
  rw [srhPut_t]
  by_cases hz : srC h.nx h.lf h.fl h.tg h.s h.t = 0
  · obtain ⟨⟨a1, a2, a3, a4⟩, b1, b2, b3, b4⟩ := srC_zero hz
    have e1 := sgs_len h.s
    have e2 := putB_len (tls h.t)
    have e3 := hdB_len h
    unfold srP
    rw [if_pos hz, hz, byB_t a1 a2 a3, spA_eq h b2]
    have e4 : (hdB h ++ sgs h.s ++ putB (tls h.t)).length ≤ 1000 := by simp only [List.length_append]; omega
    rw [dec_t (show (hdB h).length = (hdB h).length ∧ (putB (tls h.t)).length = (putB (tls h.t)).length ∧ (5 : TypeId) = 5 ∧ (5 : TypeId) = 5 ∧ spI h.s h.s.length 0 (hdB h) from ⟨rfl, rfl, rfl, rfl, rfl, by omega, by omega, by omega, by omega⟩)]
    simp (disch := omega) only [dec_t, dec_f, inB_t, inC_t, andT_t, cond_true, cond_false, Bool.and_true, Bool.true_and, w64, wu32, wu8, nble_t, nblt_t, Bool.not_true, Bool.not_false, Bool.not_not, ieq_t, ieq_f, ine_t, ine_f, true_and, and_true, andT_l]
  · unfold srP
    rw [if_neg hz]
    unfold srC at hz ⊢
    by_cases h0 : (0 ≤ h.nx ∧ h.nx ≤ 255) ∧ (0 ≤ h.lf ∧ h.lf ≤ 255) ∧ (0 ≤ h.fl ∧ h.fl ≤ 255)
    · rw [byB_t h0.1 h0.2.1 h0.2.2]
      by_cases h1 : 0 ≤ h.tg ∧ h.tg ≤ 65535
      · have h1' : (0 ≤ h.nx ∧ h.nx ≤ 255) ∧ (0 ≤ h.lf ∧ h.lf ≤ 255) ∧ (0 ≤ h.fl ∧ h.fl ≤ 255) ∧ 0 ≤ h.tg ∧ h.tg ≤ 65535 := ⟨h0.1, h0.2.1, h0.2.2, h1⟩
        rw [if_pos h1'] at hz ⊢
        by_cases h2 : h.s.length < 1 ∨ 10 < h.s.length
        · rw [if_pos h2]
          by_cases h3 : h.s.length < 1
          · simp (disch := omega) only [dec_t, dec_f, inB_t, inC_t, andT_t, cond_true, cond_false, Bool.and_true, Bool.true_and, w64, wu32, wu8, nble_t, nblt_t, Bool.not_true, Bool.not_false, Bool.not_not, ieq_t, ieq_f, ine_t, ine_f, true_and, and_true, andT_l]
          · simp (disch := omega) only [dec_t, dec_f, inB_t, inC_t, andT_t, cond_true, cond_false, Bool.and_true, Bool.true_and, w64, wu32, wu8, nble_t, nblt_t, Bool.not_true, Bool.not_false, Bool.not_not, ieq_t, ieq_f, ine_t, ine_f, true_and, and_true, andT_l]
        · rw [if_neg h2] at hz ⊢
          by_cases h3 : (h.s.length : Int) ≤ h.lf
          · rw [if_pos h3]
            simp (disch := omega) only [dec_t, dec_f, inB_t, inC_t, andT_t, cond_true, cond_false, Bool.and_true, Bool.true_and, w64, wu32, wu8, nble_t, nblt_t, Bool.not_true, Bool.not_false, Bool.not_not, ieq_t, ieq_f, ine_t, ine_f, true_and, and_true, andT_l]
          · rw [if_neg h3] at hz ⊢
            simp (disch := omega) only [dec_t, dec_f, inB_t, inC_t, andT_t, cond_true, cond_false, Bool.and_true, Bool.true_and, w64, wu32, wu8, nble_t, nblt_t, Bool.not_true, Bool.not_false, Bool.not_not, ieq_t, ieq_f, ine_t, ine_f, true_and, and_true, andT_l]
      · rw [if_neg (by omega)]
        by_cases h3 : h.tg < 0
        · simp (disch := omega) only [dec_t, dec_f, inB_t, inC_t, andT_t, cond_true, cond_false, Bool.and_true, Bool.true_and, w64, wu32, wu8, nble_t, nblt_t, Bool.not_true, Bool.not_false, Bool.not_not, ieq_t, ieq_f, ine_t, ine_f, true_and, and_true, andT_l]
        · simp (disch := omega) only [dec_t, dec_f, inB_t, inC_t, andT_t, cond_true, cond_false, Bool.and_true, Bool.true_and, w64, wu32, wu8, nble_t, nblt_t, Bool.not_true, Bool.not_false, Bool.not_not, ieq_t, ieq_f, ine_t, ine_f, true_and, and_true, andT_l]
    · rw [byB_f h0, if_neg (by omega)]
      rfl
def cSrhPut : List V → Option (V × Bool)
  | [.agg [.int .i64 nx, .int .i64 lf, .int .i64 fl, .int .i64 tg, .rows (.barr 16) s, .rows (.agg [.int .i64, .bytes]) t]] => some (.tup [.ownv 5 (.bytes (srP ⟨nx, lf, fl, tg, s, t⟩)), .int .i64 (srC nx lf fl tg s t)], (decide (t.length ≤ 4611686018427387904) && okS s))
  | _ => none
theorem srhPut_con : ∀ vs v, cSrhPut vs = some (v, true) → SpecV Try.prog 137 vs v := by
  intro vs v h; unfold cSrhPut at h; split at h
  · rename_i nx lf fl tg s t
    injection h with h; injection h with h hb; subst h
    exact callV_ok Esrc_ok af_srhPut_ok (srhPut_v ⟨nx, lf, fl, tg, s, t⟩ (of_decide_eq_true ((Bool.and_eq_true _ _).mp hb).1))
  · cases h
end Go.Proofs.Ytbojofchpnfnlaa

namespace Go.Proofs.Ytbojofchpnfnlaa
open Go Go.Am Go.RowKit Go.Mix Go.Bas
set_option maxRecDepth 100000
theorem okS_of {M : Nat} {s : List V} (h : ∀ y ∈ s, inR M (.barr 16) y = true) : okS s = true := by
  unfold okS
  rw [List.all_eq_true]
  intro y hy
  obtain ⟨l, rfl, hl⟩ := inR_barr (h y hy)
  show Nat.beq l.length 16 = true
  rw [hl]
  rfl
end Go.Proofs.Ytbojofchpnfnlaa

namespace Go.Proofs.Ytbojofchpnfnlaa
open Go Go.Am Go.RowKit Go.Mix Go.Bas
set_option maxRecDepth 100000
def A16 (x : List UInt8) : List UInt8 := List.take 0 (List.replicate 16 0) ++ (List.take 16 x ++ List.drop (0 + min 16 x.length) (List.replicate 16 0))
/-- rounds that read the segments -/
def sgR {α : Type} (c : List UInt8) (e : Int) (fin : List V → Option α) : Nat → Int → List V → Option α
  | 0, _, _ => none
  | m + 1, a, l => bif decide (a < e) then bif andT true (Am.inC (IntKind.i64.wrap (a + 16)) c.length && Am.inC (IntKind.i64.wrap (a + 16)) (IntKind.i64.wrap (a + 16)).toNat && Am.inC a (IntKind.i64.wrap (a + 16)).toNat) && true then
      sgR c e fin m (IntKind.i64.wrap (a + 16)) (l ++ [.barr 16 (A16 (cutL c a.toNat (IntKind.i64.wrap (a + 16)).toNat))]) else none else fin l
noncomputable def af_wSegs : AF := afOf Try.prog Try.f174 [.unr 11]
theorem af_wSegs_ok : AllOk Try.prog 174 af_wSegs := .flat Try.func174 (by kernel_rfl) (by kernel_rfl) (by kernel_rfl) (by kernel_rfl) (by kernel_rfl)
noncomputable def af_srhParse : AF := afOf Try.prog Try.f143 []
theorem af_srhParse_ok : AllOk Try.prog 143 af_srhParse := .flat Try.func143 (by kernel_rfl) (by kernel_rfl) (by kernel_rfl) (by kernel_rfl) (by kernel_rfl)
noncomputable def GEsrd : List (Nat × Con) := [(124, .val [.bytes, .int .i64] cU16), (175, .val [.bytes] cTlvParse)]

theorem GEsrd_ok : GOk Try.prog GEsrd := .cons (enters_of Try.func124 (by kernel_rfl) rfl) U16_con <| .cons (enters_of Try.func175 (by kernel_rfl) rfl) tlvParse_con <| .nil

noncomputable def IEsrd : List (Nat × AF) := [(188, af_wHas), (174, af_wSegs)]
theorem IEsrd_ok : IOk Try.prog IEsrd := .cons af_wHas_ok <| .cons af_wSegs_ok <| .nil
noncomputable def CEsrd : List (Nat × (List Nat × (S → Option S))) := []
theorem CEsrd_ok : COk Try.prog CEsrd := .nil
noncomputable def XEsrd : List (Nat × (List Sh × (List V → PT))) := []
theorem XEsrd_ok : XOk Try.prog XEsrd := .nil
noncomputable def Esrd : Env := ⟨Try.prog, GEsrd, IEsrd, CEsrd, XEsrd⟩
theorem Esrd_ok : EnvOk Esrd := ⟨by kernel_rfl, GEsrd_ok, IEsrd_ok, CEsrd_ok, XEsrd_ok⟩
def pLn (b : List UInt8) : Int := IntKind.i64.wrap (8 * IntKind.i64.wrap (IntKind.i64.wrap (gt b 1) + 1))
def pN (b : List UInt8) : Int := IntKind.i64.wrap (IntKind.i64.wrap (gt b 4) + 1)
def pE (b : List UInt8) : Int := IntKind.i64.wrap (8 + IntKind.i64.wrap (16 * pN b))
def hE (e : Int) : Option V := some (.tup [.agg [.int .i64 0, .int .i64 0, .int .i64 0, .int .i64 0, .rows (.barr 16) [], .rows (.agg [.int .i64, .bytes]) []], .int .i64 0, .int .i64 e])
def pF (b c : List UInt8) (e : Int) (l : List V) : Option V :=
  bif andT true (Am.inC (c.length : Int) c.length && Am.inC (c.length : Int) (c.length : Int).toNat && Am.inC e (c.length : Int).toNat) then
    bif decide (IntKind.i64.wrap (gt b 3) ≥ 0) then bif !decide (IntKind.i64.wrap (gt b 3) < (l.length : Int)) then hE 5 else
      bif andT true (decide ((cutL c e.toNat (c.length : Int).toNat).length ≤ 1000000000)) then
        bif peI (parse (cutL c e.toNat (c.length : Int).toNat)) != 0 then hE (peI (parse (cutL c e.toNat (c.length : Int).toNat))) else
        some (.tup [.agg [.int .i64 (IntKind.i64.wrap (gt b 0)), .int .i64 (IntKind.i64.wrap (gt b 3)), .int .i64 (IntKind.i64.wrap (gt b 5)), .int .i64 (u16 b 6).1, .rows (.barr 16) l, .rows (.agg [.int .i64, .bytes]) (paV (parse (cutL c e.toNat (c.length : Int).toNat)))], .int .i64 (pLn b), .int .i64 0])
      else none
    else hE 5
  else none
theorem srhParse_t (b : List UInt8) : callV Esrd af_srhParse [.bytes b] =
 bif decide ((b.length : Int) < 8) then hE 3 else
 bif andT true (inB 1 b.length) then bif decide ((b.length : Int) < pLn b) then hE 3 else
 bif andT true (inB 2 b.length) then bif gt b 2 != 4 then hE 7 else
 bif andT (andT (andT true (inB 0 b.length)) (inB 3 b.length)) (inB 5 b.length) && true then
 bif andT (andT true (Am.inC (pLn b) b.length)) (inB 4 b.length) && true then
 bif decide (pN b > 10) then hE 8 else
 bif decide (pE b > ((cutL b 0 (pLn b).toNat).length : Int)) then hE 5 else
 sgR (cutL b 0 (pLn b).toNat) (pE b) (pF b (cutL b 0 (pLn b).toNat) (pE b)) 11 8 []
 else none
 else none
 else none
 else none := by kernel_rfl
end Go.Proofs.Ytbojofchpnfnlaa

namespace Go.Proofs.Ytbojofchpnfnlaa
open Go Go.Am Go.RowKit Go.Mix Go.Bas
set_option maxRecDepth 100000
end Go.Proofs.Ytbojofchpnfnlaa

namespace Go.Proofs.Ytbojofchpnfnlaa
open Go Go.Am Go.RowKit Go.Mix Go.Bas
set_option maxRecDepth 100000
/-! ### the reference -/
end Go.Proofs.Ytbojofchpnfnlaa

namespace Go.Proofs.Ytbojofchpnfnlaa
open Go Go.Am Go.RowKit Go.Mix Go.Bas
set_option maxRecDepth 100000
def shN (b : List UInt8) : Nat := (gt b 4).toNat + 1
def shL (b : List UInt8) : Nat := 8 * ((gt b 1).toNat + 1)
def sgL (b : List UInt8) (n : Nat) : List V := (List.range n).map fun k => .barr 16 (cutL b (8 + 16 * k) (24 + 16 * k))
def shT (b : List UInt8) : List UInt8 := cutL b (8 + 16 * shN b) (shL b)
def shE (b : List UInt8) : Int := if b.length < 8 then 3 else if b.length < shL b then 3 else if gt b 2 ≠ 4 then 7 else if 10 < shN b then 8 else if shL b < 8 + 16 * shN b then 5 else if (shN b : Int) ≤ gt b 3 then 5 else peI (parse (shT b))
def zI (e x : Int) : Int := if e = 0 then x else 0
def zV (e : Int) (l : List V) : List V := if e = 0 then l else []
def shV (b : List UInt8) : V := .tup [.agg [.int .i64 (zI (shE b) (gt b 0)), .int .i64 (zI (shE b) (gt b 3)), .int .i64 (zI (shE b) (gt b 5)), .int .i64 (zI (shE b) (gt b 6 * 256 + gt b 7)), .rows (.barr 16) (zV (shE b) (sgL b (shN b))), .rows (.agg [.int .i64, .bytes]) (zV (shE b) (paV (parse (shT b))))], .int .i64 (zI (shE b) (shL b)), .int .i64 (shE b)]
theorem hE_eq {b : List UInt8} {e : Int} (he : shE b = e) (h0 : e ≠ 0) : hE e = some (shV b) := by
  unfold shV hE
  rw [he]
  simp only [zI, zV, if_neg h0]
theorem cut_take {l : List UInt8} {n i j : Nat} (h : j ≤ n) : cutL (cutL l 0 n) i j = cutL l i j := by
  rw [cutL_zero]
  unfold cutL
  rw [List.drop_take, List.take_take, Nat.min_eq_left (by omega)]
theorem A16_eq {x : List UInt8} (h : x.length = 16) : A16 x = x := by
  unfold A16
  rw [h, List.take_zero, List.nil_append, List.take_of_length_le (by omega)]
  simp
theorem sgL_succ (b : List UInt8) (k : Nat) : sgL b (k + 1) = sgL b k ++ [.barr 16 (cutL b (8 + 16 * k) (24 + 16 * k))] := by
  unfold sgL
  rw [List.range_succ, List.map_append]
  rfl
theorem sgL_cut {b : List UInt8} {L : Nat} : ∀ {n : Nat}, 8 + 16 * n ≤ L → sgL (cutL b 0 L) n = sgL b n
  | 0, _ => rfl
  | n + 1, h => by rw [sgL_succ, sgL_succ, sgL_cut (by omega), cut_take (by omega)]
theorem sgR_ok {α : Type} {fin : List V → Option α} {c : List UInt8} {N : Nat} (hc : 8 + 16 * N ≤ c.length) (hN : N ≤ 1000) : ∀ (m k : Nat), N - k < m → k ≤ N → sgR c ((8 + 16 * N : Nat) : Int) fin m ((8 + 16 * k : Nat) : Int) (sgL c k) = fin (sgL c N)
  | 0, k, h, _ => by omega
  | m + 1, k, h, hk => by
    unfold sgR
    by_cases he : k = N
    · subst he
      simp (disch := omega) only [dec_t, dec_f, inB_t, inC_t, andT_t, cond_true, cond_false, Bool.and_true, Bool.true_and, w64, wu32, wu8, nble_t, nblt_t, Bool.not_true, Bool.not_false, Bool.not_not, ieq_t, ieq_f, ine_t, ine_f, true_and, and_true, andT_l]
    · have hw : IntKind.i64.wrap (((8 + 16 * k : Nat) : Int) + 16) = ((8 + 16 * (k + 1) : Nat) : Int) := by rw [w64 (by omega) (by omega)]; omega
      rw [hw, Int.toNat_natCast, Int.toNat_natCast]
      have hl : (cutL c (8 + 16 * k) (8 + 16 * (k + 1))).length = 16 := by rw [cutL_len (by omega)]; omega
      have ih := sgR_ok (fin := fin) hc hN m (k + 1) (by omega) (by omega)
      rw [sgL_succ, show 24 + 16 * k = 8 + 16 * (k + 1) by omega] at ih
      rw [A16_eq hl, ih]
      simp (disch := omega) only [dec_t, dec_f, inB_t, inC_t, andT_t, cond_true, cond_false, Bool.and_true, Bool.true_and, w64, wu32, wu8, nble_t, nblt_t, Bool.not_true, Bool.not_false, Bool.not_not, ieq_t, ieq_f, ine_t, ine_f, true_and, and_true, andT_l]
theorem sgL_len (b : List UInt8) (n : Nat) : (sgL b n).length = n := by simp [sgL]
theorem shL_hi (b : List UInt8) : 8 ≤ shL b ∧ shL b ≤ 2048 := by
  have := gt_lo b 1; have := gt_hi b 1
  unfold shL; omega
theorem shN_hi (b : List UInt8) : 1 ≤ shN b ∧ shN b ≤ 256 := by
  have := gt_lo b 4; have := gt_hi b 4
  unfold shN; omega
theorem pLn_eq (b : List UInt8) : pLn b = ((shL b : Nat) : Int) := by
  have := gt_lo b 1; have := gt_hi b 1
  unfold pLn shL
  simp (disch := omega) only [w64]
  omega
theorem pN_eq (b : List UInt8) : pN b = ((shN b : Nat) : Int) := by
  have := gt_lo b 4; have := gt_hi b 4
  unfold pN shN
  simp (disch := omega) only [w64]
  omega
theorem pE_eq (b : List UInt8) : pE b = ((8 + 16 * shN b : Nat) : Int) := by
  have := shN_hi b
  unfold pE
  rw [pN_eq]
  simp (disch := omega) only [w64]
  omega
theorem shV_zero {b : List UInt8} (h : shE b = 0) : shV b = .tup [.agg [.int .i64 (gt b 0), .int .i64 (gt b 3), .int .i64 (gt b 5), .int .i64 (gt b 6 * 256 + gt b 7), .rows (.barr 16) (sgL b (shN b)), .rows (.agg [.int .i64, .bytes]) (paV (parse (shT b)))], .int .i64 (shL b), .int .i64 0] := by
  unfold shV
  rw [h]
  rfl
theorem srhParse_v (b : List UInt8) (hb : b.length ≤ 140737488355328) : callV Esrd af_srhParse [.bytes b] = some (shV b) := by
  rw [srhParse_t, pLn_eq, pN_eq, pE_eq, Int.toNat_natCast]
  have hL := shL_hi b
  have hN := shN_hi b
  by_cases c1 : b.length < 8
  · rw [← hE_eq (b := b) (e := 3) (by unfold shE; rw [if_pos c1]) (by decide)]
    simp (disch := omega) only [dec_t, dec_f, inB_t, inC_t, andT_t, cond_true, cond_false, Bool.and_true, Bool.true_and, w64, wu32, wu8, nble_t, nblt_t, Bool.not_true, Bool.not_false, Bool.not_not, ieq_t, ieq_f, ine_t, ine_f, true_and, and_true, andT_l]
  by_cases c2 : b.length < shL b
  · rw [← hE_eq (b := b) (e := 3) (by unfold shE; rw [if_neg c1, if_pos c2]) (by decide)]
    simp (disch := omega) only [dec_t, dec_f, inB_t, inC_t, andT_t, cond_true, cond_false, Bool.and_true, Bool.true_and, w64, wu32, wu8, nble_t, nblt_t, Bool.not_true, Bool.not_false, Bool.not_not, ieq_t, ieq_f, ine_t, ine_f, true_and, and_true, andT_l]
  by_cases c3 : gt b 2 ≠ 4
  · rw [← hE_eq (b := b) (e := 7) (by unfold shE; rw [if_neg c1, if_neg c2, if_pos c3]) (by decide)]
    simp (disch := omega) only [dec_t, dec_f, inB_t, inC_t, andT_t, cond_true, cond_false, Bool.and_true, Bool.true_and, w64, wu32, wu8, nble_t, nblt_t, Bool.not_true, Bool.not_false, Bool.not_not, ieq_t, ieq_f, ine_t, ine_f, true_and, and_true, andT_l]
  have c3' : gt b 2 = 4 := by simpa using c3
  by_cases c4 : 10 < shN b
  · rw [← hE_eq (b := b) (e := 8) (by unfold shE; rw [if_neg c1, if_neg c2, if_neg c3, if_pos c4]) (by decide)]
    simp (disch := omega) only [dec_t, dec_f, inB_t, inC_t, andT_t, cond_true, cond_false, Bool.and_true, Bool.true_and, w64, wu32, wu8, nble_t, nblt_t, Bool.not_true, Bool.not_false, Bool.not_not, ieq_t, ieq_f, ine_t, ine_f, true_and, and_true, andT_l]
  have hcl : (cutL b 0 (shL b)).length = shL b := by rw [cutL_len (by omega)]; omega
  by_cases c5 : shL b < 8 + 16 * shN b
  · rw [← hE_eq (b := b) (e := 5) (by unfold shE; rw [if_neg c1, if_neg c2, if_neg c3, if_neg c4, if_pos c5]) (by decide), hcl]
    simp (disch := omega) only [dec_t, dec_f, inB_t, inC_t, andT_t, cond_true, cond_false, Bool.and_true, Bool.true_and, w64, wu32, wu8, nble_t, nblt_t, Bool.not_true, Bool.not_false, Bool.not_not, ieq_t, ieq_f, ine_t, ine_f, true_and, and_true, andT_l]
  have e : sgR (cutL b 0 (shL b)) ((8 + 16 * shN b : Nat) : Int) (pF b (cutL b 0 (shL b)) ((8 + 16 * shN b : Nat) : Int)) 11 8 [] = pF b (cutL b 0 (shL b)) ((8 + 16 * shN b : Nat) : Int) (sgL (cutL b 0 (shL b)) (shN b)) :=
    sgR_ok (fin := pF b (cutL b 0 (shL b)) ((8 + 16 * shN b : Nat) : Int)) (c := cutL b 0 (shL b)) (N := shN b) (by omega) (by omega) 11 0 (by omega) (by omega)
  rw [e, sgL_cut (by omega)]
  have g0 := gt_lo b 0; have g0' := gt_hi b 0
  have g3 := gt_lo b 3; have g3' := gt_hi b 3
  have g5 := gt_lo b 5; have g5' := gt_hi b 5
  have ht : cutL (cutL b 0 (shL b)) (8 + 16 * shN b) (shL b) = shT b := cut_take (Nat.le_refl _)
  have htl : (shT b).length ≤ 2048 := by unfold shT; rw [length_cutL]; omega
  have hF : pF b (cutL b 0 (shL b)) ((8 + 16 * shN b : Nat) : Int) (sgL b (shN b)) = some (shV b) := by
    unfold pF
    rw [hcl, Int.toNat_natCast, Int.toNat_natCast, ht, sgL_len]
    by_cases c6 : (shN b : Int) ≤ gt b 3
    · rw [← hE_eq (b := b) (e := 5) (by unfold shE; rw [if_neg c1, if_neg c2, if_neg c3, if_neg c4, if_neg c5, if_pos c6]) (by decide)]
      simp (disch := omega) only [dec_t, dec_f, inB_t, inC_t, andT_t, cond_true, cond_false, Bool.and_true, Bool.true_and, w64, wu32, wu8, nble_t, nblt_t, Bool.not_true, Bool.not_false, Bool.not_not, ieq_t, ieq_f, ine_t, ine_f, true_and, and_true, andT_l]
    have hE0 : shE b = peI (parse (shT b)) := by unfold shE; rw [if_neg c1, if_neg c2, if_neg c3, if_neg c4, if_neg c5, if_neg c6]
    by_cases c7 : peI (parse (shT b)) = 0
    · rw [shV_zero (hE0.trans c7)]
      have hu : (u16 b 6).1 = gt b 6 * 256 + gt b 7 := by unfold u16; rw [if_pos (by omega)]; rfl
      rw [hu, pLn_eq, c7]
      simp (disch := omega) only [dec_t, dec_f, inB_t, inC_t, andT_t, cond_true, cond_false, Bool.and_true, Bool.true_and, w64, wu32, wu8, nble_t, nblt_t, Bool.not_true, Bool.not_false, Bool.not_not, ieq_t, ieq_f, ine_t, ine_f, true_and, and_true, andT_l]
    · rw [← hE_eq hE0 c7]
      simp (disch := omega) only [dec_t, dec_f, inB_t, inC_t, andT_t, cond_true, cond_false, Bool.and_true, Bool.true_and, w64, wu32, wu8, nble_t, nblt_t, Bool.not_true, Bool.not_false, Bool.not_not, ieq_t, ieq_f, ine_t, ine_f, true_and, and_true, andT_l]
  rw [hF]
  simp (disch := omega) only [dec_t, dec_f, inB_t, inC_t, andT_t, cond_true, cond_false, Bool.and_true, Bool.true_and, w64, wu32, wu8, nble_t, nblt_t, Bool.not_true, Bool.not_false, Bool.not_not, ieq_t, ieq_f, ine_t, ine_f, true_and, and_true, andT_l]
def cSrhParse : List V → Option (V × Bool)
  | [.bytes b] => some (.tup [.agg [.int .i64 (zI (shE b) (gt b 0)), .int .i64 (zI (shE b) (gt b 3)), .int .i64 (zI (shE b) (gt b 5)), .int .i64 (zI (shE b) (gt b 6 * 256 + gt b 7)), .rows (.barr 16) (zV (shE b) (sgL b (shN b))), .rows (.agg [.int .i64, .bytes]) (zV (shE b) (paV (parse (shT b))))], .int .i64 (zI (shE b) (shL b)), .int .i64 (shE b)], decide (b.length ≤ 140737488355328))
  | _ => none
theorem srhParse_con : ∀ vs v, cSrhParse vs = some (v, true) → SpecV Try.prog 143 vs v := by
  intro vs v h; unfold cSrhParse at h; split at h
  · rename_i b
    injection h with h; injection h with h hb; subst h
    exact callV_ok Esrd_ok af_srhParse_ok (srhParse_v b (of_decide_eq_true hb))
  · cases h
end Go.Proofs.Ytbojofchpnfnlaa

namespace Go.Proofs.Ytbojofchpnfnlaa
open Go Go.Am Go.RowKit Go.Mix Go.Bas
set_option maxRecDepth 100000
end Go.Proofs.Ytbojofchpnfnlaa

namespace Go.Proofs.Ytbojofchpnfnlaa
open Go Go.Am Go.RowKit Go.Mix Go.Bas
theorem pad_short : ∀ {k : Int}, 0 ≤ k → k < 8 → ((pad k).length : Int) = k := by
  intro k h0 h1
  obtain ⟨n, rfl⟩ := Int.eq_ofNat_of_zero_le h0
  have : n = 0 ∨ n = 1 ∨ n = 2 ∨ n = 3 ∨ n = 4 ∨ n = 5 ∨ n = 6 ∨ n = 7 := by omega
  rcases this with rfl | rfl | rfl | rfl | rfl | rfl | rfl | rfl <;> rfl
theorem putB_mod (L : List (Int × List UInt8)) : (putB L).length % 8 = 0 := by
  by_cases h : can 256 L = 0
  · have hp := pad_short (k := (8 - ((enc L).length : Int) % 8) % 8) (by omega) (by omega)
    rw [putB_ok h, List.length_append]
    omega
  · rw [putB_no h]; rfl
theorem parse_putB {L : List (Int × List UInt8)} (h : can 256 L = 0) : parse (putB L) = some L := by
  have := parse_back h 0 ((8 - ((enc L).length : Int) % 8) % 8) 0
  rw [pad_zero, List.nil_append, List.append_nil] at this
  rw [putB_ok h]
  exact this
theorem segB_full {v : V} (h : (toA v).length = 16) : segB v = toA v := by
  unfold segB
  rw [cutL_zero, List.take_of_length_le (by omega)]
theorem okS_cons {v : V} {r : List V} (h : okS (v :: r) = true) : (toA v).length = 16 ∧ okS r = true := by
  unfold okS at h
  rw [List.all_cons, Bool.and_eq_true] at h
  exact ⟨Nat.eq_of_beq_eq_true h.1, h.2⟩
theorem sgs_full : ∀ {s : List V}, okS s = true → (sgs s).length = 16 * s.length
  | [], _ => rfl
  | v :: r, h => by
    obtain ⟨h1, h2⟩ := okS_cons h
    have ih := sgs_full h2
    show (segB v ++ sgs r).length = _
    rw [List.length_append, segB_full h1, h1, ih, List.length_cons]
    omega
/-- the segments of bytes, from a place on -/
theorem sgL_back : ∀ {s : List V}, okS s = true → (∀ v ∈ s, v = .barr 16 (toA v)) → ∀ (a q : List UInt8), ((List.range s.length).map fun k => V.barr 16 (cutL (a ++ (sgs s ++ q)) (a.length + 16 * k) (a.length + 16 * k + 16))) = s
  | [], _, _, a, q => rfl
  | v :: r, h, hv, a, q => by
    obtain ⟨h1, h2⟩ := okS_cons h
    have ih := sgL_back h2 (fun x hx => hv x (List.mem_cons_of_mem _ hx)) (a ++ toA v) q
    have e : a ++ (sgs (v :: r) ++ q) = (a ++ toA v) ++ (sgs r ++ q) := by
      show a ++ ((segB v ++ sgs r) ++ q) = _
      rw [segB_full h1]
      simp
    rw [List.length_cons, List.range_succ_eq_map, List.map_cons, List.map_map, e]
    have hd : V.barr 16 (cutL (a ++ toA v ++ (sgs r ++ q)) (a.length + 16 * 0) (a.length + 16 * 0 + 16)) = v := by
      refine Eq.trans ?_ (hv v (by simp)).symm
      congr 1
      unfold cutL
      simp only [Nat.mul_zero, Nat.add_zero]
      rw [List.append_assoc, List.drop_left, show a.length + 16 - a.length = (toA v).length by omega]
      show List.take (toA v).length (toA v ++ _) = toA v
      exact List.take_left
    rw [hd]
    congr 1
    rw [← ih]
    have hl : (a ++ toA v).length = a.length + 16 := by rw [List.length_append, h1]
    apply List.ext_getElem
    · simp
    · intro i _ _
      simp only [List.getElem_map, List.getElem_range, Function.comp]
      rw [ih, hl, show a.length + 16 * (i + 1) = a.length + 16 + 16 * i by omega]
theorem tls_back : ∀ {t : List V}, (∀ v ∈ t, ∃ (k : Int) (d : List UInt8), v = .agg [.int .i64 k, .bytes d]) → (tls t).map tlV = t
  | [], _ => rfl
  | v :: r, h => by
    obtain ⟨k, d, rfl⟩ := h v (by simp)
    show tlV (tlP _) :: (tls r).map tlV = _
    rw [tls_back (fun x hx => h x (List.mem_cons_of_mem _ hx))]
    rfl
theorem b8_gt (n : Int) (h : 0 ≤ n ∧ n ≤ 255) : ((b8 n).toNat : Int) = n := (b8_toNat n).trans (by omega)
theorem srh_back (h : Hd) (hz : srC h.nx h.lf h.fl h.tg h.s h.t = 0) (hs : okS h.s = true) (hv : ∀ v ∈ h.s, v = .barr 16 (toA v)) (ht : ∀ v ∈ h.t, ∃ (k : Int) (d : List UInt8), v = .agg [.int .i64 k, .bytes d]) (q : List UInt8) :
    shE (srP h ++ q) = 0 ∧ gt (srP h ++ q) 0 = h.nx ∧ gt (srP h ++ q) 3 = h.lf ∧ gt (srP h ++ q) 5 = h.fl ∧ gt (srP h ++ q) 6 * 256 + gt (srP h ++ q) 7 = h.tg ∧ sgL (srP h ++ q) (shN (srP h ++ q)) = h.s ∧ paV (parse (shT (srP h ++ q))) = h.t ∧ shL (srP h ++ q) = (srP h).length := by
  obtain ⟨⟨a1, a2, a3, a4⟩, b1, b2, b3, b4⟩ := srC_zero hz
  have hT := putB_len (tls h.t)
  have hM := putB_mod (tls h.t)
  have hS := sgs_full hs
  have e0 : srP h ++ q = hdB h ++ (sgs h.s ++ (putB (tls h.t) ++ q)) := by
    unfold srP
    rw [if_pos hz]
    simp
  have hlP : (srP h).length = 8 + 16 * h.s.length + (putB (tls h.t)).length := by
    unfold srP
    rw [if_pos hz, List.length_append, List.length_append, hS, hdB_len]
  have hb : (srP h ++ q).length = 8 + 16 * h.s.length + (putB (tls h.t)).length + q.length := by rw [List.length_append, hlP]
  generalize hB : srP h ++ q = b at *
  have k0 : gt b 0 = h.nx := by rw [e0]; exact b8_gt _ a1
  have k1 : gt b 1 = 2 * (h.s.length : Int) + ((putB (tls h.t)).length : Int) / 8 := by rw [e0]; exact b8_gt _ (by omega)
  have k2 : gt b 2 = 4 := by rw [e0]; rfl
  have k3 : gt b 3 = h.lf := by rw [e0]; exact b8_gt _ a2
  have k4 : gt b 4 = (h.s.length : Int) - 1 := by rw [e0]; exact b8_gt _ (by omega)
  have k5 : gt b 5 = h.fl := by rw [e0]; exact b8_gt _ a3
  have k6 : gt b 6 = h.tg / 256 := by rw [e0]; exact b8_gt _ (by omega)
  have k7 : gt b 7 = h.tg % 256 := by rw [e0]; exact b8_toNat _
  have hN : shN b = h.s.length := by unfold shN; omega
  have hL : shL b = 8 + 16 * h.s.length + (putB (tls h.t)).length := by unfold shL; omega
  have hTT : shT b = putB (tls h.t) := by
    unfold shT
    rw [hN, hL, e0]
    unfold cutL
    have : (hdB h ++ sgs h.s).length = 8 + 16 * h.s.length := by rw [List.length_append, hS, hdB_len]
    rw [← List.append_assoc, ← this, List.drop_left, Nat.add_sub_cancel_left]
    exact List.take_left
  have hE : shE b = 0 := by
    unfold shE
    rw [if_neg (by omega), if_neg (by omega), if_neg (by simp [k2]), if_neg (by omega), if_neg (by omega), if_neg (by omega), hTT, parse_putB b4]
    rfl
  refine ⟨hE, k0, k3, k5, by omega, ?_, ?_, by omega⟩
  · have := sgL_back hs hv (hdB h) (putB (tls h.t) ++ q)
    rw [← e0, hdB_len] at this
    unfold sgL
    rw [hN]
    refine Eq.trans ?_ this
    apply List.ext_getElem
    · simp
    · intro i _ _
      simp only [List.getElem_map, List.getElem_range]
      rw [show 24 + 16 * i = 8 + 16 * i + 16 by omega]
  · rw [hTT, parse_putB b4]
    exact tls_back ht
end Go.Proofs.Ytbojofchpnfnlaa

namespace Go.Proofs.Ytbojofchpnfnlaa
open Go Go.Am Go.RowKit Go.Mix Go.Bas
set_option maxRecDepth 100000
theorem barr_of {M : Nat} {s : List V} (h : ∀ y ∈ s, inR M (.barr 16) y = true) : ∀ v ∈ s, v = .barr 16 (toA v) := by
  intro v hv
  obtain ⟨l, rfl, _⟩ := inR_barr (h v hv)
  rfl
end Go.Proofs.Ytbojofchpnfnlaa
