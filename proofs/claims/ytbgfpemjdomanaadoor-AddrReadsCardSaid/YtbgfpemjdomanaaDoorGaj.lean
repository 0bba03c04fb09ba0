/- Part Gaj of the proof: laws used by the law of this claim. -/
import Derived.Test.YtbgfpemjdomanaaDoorGaf
import Derived.Test.YtbgfpemjdomanaaDoorGf
set_option linter.all false
namespace Go.Proofs.YtbgfpemjdomanaaDoor
open Go Go.Am Go.RowKit Go.Mix Go.Bas
set_option maxRecDepth 100000
noncomputable def af_rDigit : AF := afOf Tryd.prog Tryd.f35 [.unr 17]
theorem af_rDigit_ok : AllOk Tryd.prog 35 af_rDigit := .flat Tryd.func35 (by kernel_rfl) (by kernel_rfl) (by kernel_rfl) (by kernel_rfl) (by kernel_rfl)
noncomputable def GEadd0 : List (Nat × Con) := []
theorem GEadd0_ok : GOk Tryd.prog GEadd0 := .nil
noncomputable def IEadd0 : List (Nat × AF) := []
theorem IEadd0_ok : IOk Tryd.prog IEadd0 := .nil
noncomputable def CEadd0 : List (Nat × (List Nat × (S → Option (Bool × Tr)))) := []
theorem CEadd0_ok : COk Tryd.prog CEadd0 := .nil
noncomputable def XEadd0 : List (Nat × (List Sh × (List V → PT))) := []
theorem XEadd0_ok : XOk Tryd.prog XEadd0 := .nil
noncomputable def Eadd0 : Env := ⟨Tryd.prog, GEadd0, IEadd0, CEadd0, XEadd0⟩
theorem Eadd0_ok : EnvOk Eadd0 := ⟨by kernel_rfl, GEadd0_ok, IEadd0_ok, CEadd0_ok, XEadd0_ok⟩
theorem rDigit_t (n : Int) : callV Eadd0 af_rDigit [.int .u8 n] =
 bif n == (48 : Int) then some (V.int IntKind.i64 (0 : Int))
 else
 bif n == (48 : Int) then some (V.int IntKind.i64 (0 : Int))
 else
 bif n == (49 : Int) then some (V.int IntKind.i64 (1 : Int))
 else
 bif n == (49 : Int) then some (V.int IntKind.i64 (1 : Int))
 else
 bif n == (50 : Int) then some (V.int IntKind.i64 (2 : Int))
 else
 bif n == (50 : Int) then some (V.int IntKind.i64 (2 : Int))
 else
 bif n == (51 : Int) then some (V.int IntKind.i64 (3 : Int))
 else
 bif n == (51 : Int) then some (V.int IntKind.i64 (3 : Int))
 else
 bif n == (52 : Int) then some (V.int IntKind.i64 (4 : Int))
 else
 bif n == (52 : Int) then some (V.int IntKind.i64 (4 : Int))
 else
 bif n == (53 : Int) then some (V.int IntKind.i64 (5 : Int))
 else
 bif n == (53 : Int) then some (V.int IntKind.i64 (5 : Int))
 else
 bif n == (54 : Int) then some (V.int IntKind.i64 (6 : Int))
 else
 bif n == (54 : Int) then some (V.int IntKind.i64 (6 : Int))
 else
 bif n == (55 : Int) then some (V.int IntKind.i64 (7 : Int))
 else
 bif n == (55 : Int) then some (V.int IntKind.i64 (7 : Int))
 else
 bif n == (56 : Int) then some (V.int IntKind.i64 (8 : Int))
 else
 bif n == (56 : Int) then some (V.int IntKind.i64 (8 : Int))
 else
 bif n == (57 : Int) then some (V.int IntKind.i64 (9 : Int))
 else
 bif n == (57 : Int) then some (V.int IntKind.i64 (9 : Int))
 else
 bif n == (97 : Int) then some (V.int IntKind.i64 (10 : Int))
 else
 bif n == (65 : Int) then some (V.int IntKind.i64 (10 : Int))
 else
 bif n == (98 : Int) then some (V.int IntKind.i64 (11 : Int))
 else
 bif n == (66 : Int) then some (V.int IntKind.i64 (11 : Int))
 else
 bif n == (99 : Int) then some (V.int IntKind.i64 (12 : Int))
 else
 bif n == (67 : Int) then some (V.int IntKind.i64 (12 : Int))
 else
 bif n == (100 : Int) then some (V.int IntKind.i64 (13 : Int))
 else
 bif n == (68 : Int) then some (V.int IntKind.i64 (13 : Int))
 else
 bif n == (101 : Int) then some (V.int IntKind.i64 (14 : Int))
 else
 bif n == (69 : Int) then some (V.int IntKind.i64 (14 : Int))
 else
 bif n == (102 : Int) then
 some (V.int IntKind.i64 (15 : Int))
 else
 bif n == (70 : Int) then
 some (V.int IntKind.i64 (15 : Int))
 else some (V.int IntKind.i64 (-1 : Int)) := by kernel_rfl

theorem beq_no {n k : Int} (h : n ≠ k) : (n == k) = false := by simpa using h
theorem rDigit_v (n : Int) : callV Eadd0 af_rDigit [.int .u8 n] = some (.int .i64 (if vlB n = true then vlN n else -1)) := by
  by_cases c : vlB n = true
  · have d := of_decide_eq_true c
    have e : n = 48 ∨ n = 49 ∨ n = 50 ∨ n = 51 ∨ n = 52 ∨ n = 53 ∨ n = 54 ∨ n = 55 ∨ n = 56 ∨ n = 57 ∨ n = 97 ∨ n = 98 ∨ n = 99 ∨ n = 100 ∨ n = 101 ∨ n = 102 ∨ n = 65 ∨ n = 66 ∨ n = 67 ∨ n = 68 ∨ n = 69 ∨ n = 70 := by omega
    clear c d
    rcases e with rfl | rfl | rfl | rfl | rfl | rfl | rfl | rfl | rfl | rfl | rfl | rfl | rfl | rfl | rfl | rfl | rfl | rfl | rfl | rfl | rfl | rfl <;> (refine (show _ = _ from ?_); kernel_rfl)
  · have d : ¬ ((48 ≤ n ∧ n ≤ 57) ∨ (97 ≤ n ∧ n ≤ 102) ∨ (65 ≤ n ∧ n ≤ 70)) := fun h => c (decide_eq_true h)
    rw [rDigit_t, if_neg c]
    simp (disch := omega) only [beq_no, cond_false]
def cRDigit : List V → Option (V × Bool)
  | [.int .u8 n] => some (.int .i64 (if vlB n = true then vlN n else -1), true)
  | _ => none
theorem rDigit_con : ∀ vs v, cRDigit vs = some (v, true) → SpecV Tryd.prog 35 vs v := by
  intro vs v h; unfold cRDigit at h; split at h
  · rename_i n
    injection h with h; injection h with h hb; subst h
    exact callV_ok Eadd0_ok af_rDigit_ok (rDigit_v _)
  · cases h
end Go.Proofs.YtbgfpemjdomanaaDoor

namespace Go.Proofs.YtbgfpemjdomanaaDoor
open Go Go.Am Go.RowKit Go.Mix Go.Bas
set_option maxRecDepth 100000
noncomputable def GErg : List (Nat × Con) := [(35, .val [.int .u8] cRDigit)]
theorem GErg_ok : GOk Tryd.prog GErg := .cons (enters_of Tryd.func35 (by kernel_rfl) rfl) rDigit_con <| .nil
noncomputable def IErg : List (Nat × AF) := []
theorem IErg_ok : IOk Tryd.prog IErg := .nil
noncomputable def CErg : List (Nat × (List Nat × (S → Option (Bool × Tr)))) := []
theorem CErg_ok : COk Tryd.prog CErg := .nil
noncomputable def XErg : List (Nat × (List Sh × (List V → PT))) := []
theorem XErg_ok : XOk Tryd.prog XErg := .nil
noncomputable def Erg : Env := ⟨Tryd.prog, GErg, IErg, CErg, XErg⟩
theorem Erg_ok : EnvOk Erg := ⟨by kernel_rfl, GErg_ok, IErg_ok, CErg_ok, XErg_ok⟩
def rgB (o : List V) : List (Nat × Option Blk) := [(0, some (.row 3 (.int .i64) (.rows (.int .i64) o)))]
def rgA (s : List UInt8) (i n k : Int) : S := ⟨[(0, .str s), (4, .nils), (5, .int .i64 n), (6, .int .i64 k), (7, .int .i64 i)], [], 0, true, 55⟩
def rgS (s : List UInt8) (i n k : Int) (o : List V) : S := ⟨[(0, .str s), (4, .own 0 o.length (.int .i64)), (5, .int .i64 n), (6, .int .i64 k), (7, .int .i64 i)], rgB o, 1, true, 55⟩
def rgZ : S := ⟨[(2, .nils), (3, .bool false)], [], 0, true, 55⟩
def rgX0 (n k : Int) : S := ⟨[(4, .nils), (5, .int .i64 n), (6, .int .i64 k)], [], 0, true, 55⟩
def rgX1 (n k : Int) (o : List V) : S := ⟨[(4, .own 0 o.length (.int .i64)), (5, .int .i64 n), (6, .int .i64 k)], rgB o, 1, true, 55⟩
structure RgI where
  (s : List UInt8)
  (i n k : Int)
  (o : List V)
def rgGet (s : S) : RgI := ⟨toS (lkD s 0), toI (lkD s 7), toI (lkD s 5), toI (lkD s 6), toR (bkD s 0)⟩
def rgSt (x : RgI) : S := if x.o.isEmpty = true then rgA x.s x.i x.n x.k else rgS x.s x.i x.n x.k x.o
def rgE : List UInt8 → Int → Int → List V → Option (Int × Int × List V)
  | [], n, k, o => some (n, k, o)
  | c :: l, n, k, o => if (c.toNat : Int) = 58 then (if k = 0 then none else if l = [] then none else rgE l 0 0 (o ++ [.int .i64 n])) else if vlB c.toNat = true then (if k = 4 then none else rgE l (n * 16 + vlN c.toNat) (k + 1) o) else none
def rgI (x : RgI) : Prop := 0 ≤ x.i ∧ x.i ≤ x.s.length ∧ x.s.length ≤ 1000 ∧ 0 ≤ x.k ∧ x.k ≤ 4 ∧ 0 ≤ x.n ∧ x.n < 65536 ∧ (x.k = 0 → x.n = 0) ∧ (x.k = 1 → x.n < 16) ∧ (x.k = 2 → x.n < 256) ∧ (x.k = 3 → x.n < 4096) ∧ x.o.length ≤ x.i
def rgT (r : Option (Int × Int × List V)) : Tr := .br r.isSome (.br ((r.getD (0, 0, [])).2.2.isEmpty) (.leaf (.exit 0) (rgX0 (r.getD (0, 0, [])).1 (r.getD (0, 0, [])).2.1)) (.leaf (.exit 0) (rgX1 (r.getD (0, 0, [])).1 (r.getD (0, 0, [])).2.1 (r.getD (0, 0, [])).2.2))) (.leaf .ret rgZ)
def rgO (x : RgI) : Tr := rgT (rgE (x.s.drop x.i.toNat) x.n x.k x.o)
noncomputable def rgG : S → Option (Bool × Tr) := gX rgGet rgSt rgI rgO
noncomputable def af_rGroups : AF := afOf Tryd.prog Tryd.f28 [.sum [0, 4, 5, 6, 7] [] rgG]
noncomputable def rgC : AC := (af_rGroups.ac.sums.headD (.skip, [], [], fun _ => none)).1
theorem rgA_b (s : List UInt8) (i n k : Int) : aev Erg (inlN Erg 6) rgC (bodyF (Am.ways [0, 4, 5, 6, 7] [4, 5, 6] [2, 3]) []) (rgA s i n k) =
 bif decide (i < (↑s.length : Int)) then
 bif andT true (inB i s.length) then
 bif gt s i.toNat == (58 : Int) then
 bif k == (0 : Int) then some (Ex.ret, rgZ)
 else
 bif i == IntKind.i64.wrap ((↑s.length : Int) - (1 : Int)) then some (Ex.ret, rgZ)
 else
 some
 (Ex.normal,
 rgS s (IntKind.i64.wrap (i + (1 : Int))) (0 : Int) (0 : Int)
 (V.int IntKind.i64 n :: List.replicate (nat_lit 0) (V.int IntKind.i64 (0 : Int))))
 else
 bif andT true (inB i s.length) then
 bif decide ((if vlB (gt s i.toNat) = true then vlN (gt s i.toNat) else (-1 : Int)) < (0 : Int)) then
 some (Ex.ret, rgZ)
 else
 bif k == (4 : Int) then some (Ex.ret, rgZ)
 else
 some
 (Ex.normal,
 rgA s (IntKind.i64.wrap (i + (1 : Int)))
 (IntKind.i64.wrap
 (IntKind.i64.wrap (n * (16 : Int)) +
 if vlB (gt s i.toNat) = true then vlN (gt s i.toNat) else (-1 : Int)))
 (IntKind.i64.wrap (k + (1 : Int))))
 else none
 else none
 else some (Ex.exit (0 : Nat), rgX0 n k) := by kernel_rfl

theorem rgS_b (s : List UInt8) (i n k : Int) (o : List V) : aev Erg (inlN Erg 6) rgC (bodyF (Am.ways [0, 4, 5, 6, 7] [4, 5, 6] [2, 3]) []) (rgS s i n k o) =
 bif decide (i < (↑s.length : Int)) then
 bif andT true (inB i s.length) then
 bif gt s i.toNat == (58 : Int) then
 bif k == (0 : Int) then some (Ex.ret, rgZ)
 else
 bif i == IntKind.i64.wrap ((↑s.length : Int) - (1 : Int)) then some (Ex.ret, rgZ)
 else
 bif
 andT true
 (((o ++ V.int IntKind.i64 n :: List.replicate (nat_lit 0) (V.int IntKind.i64 (0 : Int))).length *
 (8 : Nat)).ble
 (140737488355328 : Nat)) then
 some
 (Ex.normal,
 rgS s (IntKind.i64.wrap (i + (1 : Int))) (0 : Int) (0 : Int)
 (o ++ V.int IntKind.i64 n :: List.replicate (nat_lit 0) (V.int IntKind.i64 (0 : Int))))
 else none
 else
 bif andT true (inB i s.length) then
 bif decide ((if vlB (gt s i.toNat) = true then vlN (gt s i.toNat) else (-1 : Int)) < (0 : Int)) then
 some (Ex.ret, rgZ)
 else
 bif k == (4 : Int) then some (Ex.ret, rgZ)
 else
 some
 (Ex.normal,
 rgS s (IntKind.i64.wrap (i + (1 : Int)))
 (IntKind.i64.wrap
 (IntKind.i64.wrap (n * (16 : Int)) +
 if vlB (gt s i.toNat) = true then vlN (gt s i.toNat) else (-1 : Int)))
 (IntKind.i64.wrap (k + (1 : Int))) o)
 else none
 else none
 else some (Ex.exit (0 : Nat), rgX1 n k o) := by kernel_rfl

theorem vl_rng {c : Int} (h : vlB c = true) : 0 ≤ vlN c ∧ vlN c ≤ 15 := by
  have d := of_decide_eq_true h
  unfold vlN
  (repeat' split) <;> omega
set_option maxRecDepth 8000 in
set_option maxHeartbeats 1000000 in
theorem rg_loop : LoopOk Tryd.prog rgC.erase [] rgG := by
  refine loopX_ok Erg_ok (d := 6) (AC.flat_ok (by kernel_rfl)) (Am.ways [0, 4, 5, 6, 7] [4, 5, 6] [2, 3]) [] rgGet rgSt rgO rgI (fun x => (x.s.length - x.i).toNat) (fun x => by unfold rgSt; split <;> rfl) ?_
  rintro ⟨s, i, n, k, o⟩ ⟨h0, h1, h2, hk0, hk1, hn0, hn9, e0, e1, e2, e3, hb⟩
  simp only at h0 h1 h2 hk0 hk1 hn0 hn9 e0 e1 e2 e3 hb ⊢
  cases o with
  | nil =>
    rw [show rgSt ⟨s, i, n, k, []⟩ = rgA s i n k from if_pos rfl, rgA_b]
    by_cases hi : i < s.length
    · have hk : i.toNat < s.length := by omega
      have hn1 : (i + 1).toNat = i.toNat + 1 := by omega
      have hd := drop_gt hk
      have hg : gt s i.toNat = ((s[i.toNat]'hk).toNat : Int) := gt_at hk
      generalize s[i.toNat]'hk = c at hd hg
      rw [dec_t hi, inB_t h0 hi, hg, w64 (x := i + 1) (by omega) (by omega), w64 (x := (s.length : Int) - 1) (by omega) (by omega)]
      by_cases c1 : (c.toNat : Int) = 58
      · have q1 : ((c.toNat : Int) == 58) = true := by simpa using c1
        rw [q1]
        by_cases c2 : k = 0
        · have q2 : (k == (0 : Int)) = true := by simpa using c2
          rw [q2]
          refine .inr ⟨.ret, rgZ, rfl, nofun, ?_⟩
          unfold rgO rgT
          dsimp only
          rw [hd]
          unfold rgE
          rw [if_pos c1, if_pos c2]
          exact leaf_f rfl .leaf
        · have q2 : (k == (0 : Int)) = false := by simpa using c2
          rw [q2]
          by_cases c3 : i = (s.length : Int) - 1
          · have q3 : (i == (s.length : Int) - 1) = true := by simpa using c3
            rw [q3]
            refine .inr ⟨.ret, rgZ, rfl, nofun, ?_⟩
            unfold rgO rgT
            dsimp only
            rw [hd]
            unfold rgE
            rw [if_pos c1, if_neg c2, if_pos (List.drop_of_length_le (by omega))]
            exact leaf_f rfl .leaf
          · have q3 : (i == (s.length : Int) - 1) = false := by simpa using c3
            rw [q3]
            refine .inl ⟨⟨s, i + 1, 0, 0, [.int .i64 n]⟩, rfl, ⟨by dsimp only; omega, by dsimp only; omega, h2, by dsimp only; omega, by dsimp only; omega, by dsimp only; omega, by dsimp only; omega, fun _ => rfl, fun e => absurd (show (0 : Int) = 1 from e) (by decide), fun e => absurd (show (0 : Int) = 2 from e) (by decide), fun e => absurd (show (0 : Int) = 3 from e) (by decide), by show (1 : Int) ≤ i + 1; omega⟩, by dsimp only; omega, leaf_eq ?_⟩
            unfold rgO
            dsimp only
            rw [hd, hn1]
            conv => rhs; unfold rgE
            rw [if_pos c1, if_neg c2, if_neg (by intro e; have := congrArg List.length e; simp at this; omega)]
            try rfl
      · have q1 : ((c.toNat : Int) == 58) = false := by simpa using c1
        rw [q1]
        by_cases c2 : vlB c.toNat = true
        · have hv := vl_rng c2
          rw [if_pos c2, dec_f (by omega)]
          by_cases c3 : k = 4
          · have q3 : (k == (4 : Int)) = true := by simpa using c3
            rw [q3]
            refine .inr ⟨.ret, rgZ, rfl, nofun, ?_⟩
            unfold rgO rgT
            dsimp only
            rw [hd]
            unfold rgE
            rw [if_neg c1, if_pos c2, if_pos c3]
            exact leaf_f rfl .leaf
          · have q3 : (k == (4 : Int)) = false := by simpa using c3
            rw [q3, w64 (x := n * 16) (by omega) (by omega), w64 (x := n * 16 + vlN c.toNat) (by omega) (by omega), w64 (x := k + 1) (by omega) (by omega)]
            refine .inl ⟨⟨s, i + 1, n * 16 + vlN c.toNat, k + 1, []⟩, rfl, ⟨by dsimp only; omega, by dsimp only; omega, h2, by dsimp only; omega, by dsimp only; omega, by dsimp only; omega, by dsimp only; omega, fun e => by dsimp only at e; omega, fun e => by dsimp only at e ⊢; omega, fun e => by dsimp only at e ⊢; omega, fun e => by dsimp only at e ⊢; omega, by dsimp only; omega⟩, by dsimp only; omega, leaf_eq ?_⟩
            unfold rgO
            dsimp only
            rw [hd, hn1]
            conv => rhs; unfold rgE
            rw [if_neg c1, if_pos c2, if_neg c3]
        · rw [if_neg c2, dec_t (by omega)]
          refine .inr ⟨.ret, rgZ, rfl, nofun, ?_⟩
          unfold rgO rgT
          dsimp only
          rw [hd]
          unfold rgE
          rw [if_neg c1, if_neg c2]
          exact leaf_f rfl .leaf
    · refine .inr ⟨.exit 0, rgX0 n k, ?_, nofun, ?_⟩
      · rw [dec_f hi]
        rfl
      · unfold rgO rgT
        dsimp only
        rw [List.drop_of_length_le (by omega)]
        exact leaf_t rfl (leaf_t rfl .leaf)
  | cons y o =>
    rw [show rgSt ⟨s, i, n, k, (y :: o)⟩ = rgS s i n k (y :: o) from if_neg (by simp), rgS_b]
    by_cases hi : i < s.length
    · have hk : i.toNat < s.length := by omega
      have hn1 : (i + 1).toNat = i.toNat + 1 := by omega
      have hd := drop_gt hk
      have hg : gt s i.toNat = ((s[i.toNat]'hk).toNat : Int) := gt_at hk
      generalize s[i.toNat]'hk = c at hd hg
      rw [dec_t hi, inB_t h0 hi, hg, w64 (x := i + 1) (by omega) (by omega), w64 (x := (s.length : Int) - 1) (by omega) (by omega)]
      by_cases c1 : (c.toNat : Int) = 58
      · have q1 : ((c.toNat : Int) == 58) = true := by simpa using c1
        rw [q1]
        by_cases c2 : k = 0
        · have q2 : (k == (0 : Int)) = true := by simpa using c2
          rw [q2]
          refine .inr ⟨.ret, rgZ, rfl, nofun, ?_⟩
          unfold rgO rgT
          dsimp only
          rw [hd]
          unfold rgE
          rw [if_pos c1, if_pos c2]
          exact leaf_f rfl .leaf
        · have q2 : (k == (0 : Int)) = false := by simpa using c2
          rw [q2]
          by_cases c3 : i = (s.length : Int) - 1
          · have q3 : (i == (s.length : Int) - 1) = true := by simpa using c3
            rw [q3]
            refine .inr ⟨.ret, rgZ, rfl, nofun, ?_⟩
            unfold rgO rgT
            dsimp only
            rw [hd]
            unfold rgE
            rw [if_pos c1, if_neg c2, if_pos (List.drop_of_length_le (by omega))]
            exact leaf_f rfl .leaf
          · have q3 : (i == (s.length : Int) - 1) = false := by simpa using c3
            rw [q3]
            have ho : ((y :: o) ++ V.int .i64 n :: List.replicate (nat_lit 0) (V.int .i64 0)).length = (y :: o).length + 1 := by simp
            rw [ho, show (((y :: o).length + 1) * 8).ble 140737488355328 = true from Nat.ble_eq.mpr (by omega)]
            refine .inl ⟨⟨s, i + 1, 0, 0, (y :: o) ++ [.int .i64 n]⟩, rfl, ⟨by dsimp only; omega, by dsimp only; omega, h2, by dsimp only; omega, by dsimp only; omega, by dsimp only; omega, by dsimp only; omega, fun _ => rfl, fun e => absurd (show (0 : Int) = 1 from e) (by decide), fun e => absurd (show (0 : Int) = 2 from e) (by decide), fun e => absurd (show (0 : Int) = 3 from e) (by decide), by show ((((y :: o) ++ [V.int .i64 n]).length : Nat) : Int) ≤ i + 1; rw [List.length_append, List.length_singleton]; omega⟩, by dsimp only; omega, leaf_eq ?_⟩
            unfold rgO
            dsimp only
            rw [hd, hn1]
            conv => rhs; unfold rgE
            rw [if_pos c1, if_neg c2, if_neg (by intro e; have := congrArg List.length e; simp at this; omega)]
            try rfl
      · have q1 : ((c.toNat : Int) == 58) = false := by simpa using c1
        rw [q1]
        by_cases c2 : vlB c.toNat = true
        · have hv := vl_rng c2
          rw [if_pos c2, dec_f (by omega)]
          by_cases c3 : k = 4
          · have q3 : (k == (4 : Int)) = true := by simpa using c3
            rw [q3]
            refine .inr ⟨.ret, rgZ, rfl, nofun, ?_⟩
            unfold rgO rgT
            dsimp only
            rw [hd]
            unfold rgE
            rw [if_neg c1, if_pos c2, if_pos c3]
            exact leaf_f rfl .leaf
          · have q3 : (k == (4 : Int)) = false := by simpa using c3
            rw [q3, w64 (x := n * 16) (by omega) (by omega), w64 (x := n * 16 + vlN c.toNat) (by omega) (by omega), w64 (x := k + 1) (by omega) (by omega)]
            refine .inl ⟨⟨s, i + 1, n * 16 + vlN c.toNat, k + 1, (y :: o)⟩, rfl, ⟨by dsimp only; omega, by dsimp only; omega, h2, by dsimp only; omega, by dsimp only; omega, by dsimp only; omega, by dsimp only; omega, fun e => by dsimp only at e; omega, fun e => by dsimp only at e ⊢; omega, fun e => by dsimp only at e ⊢; omega, fun e => by dsimp only at e ⊢; omega, by dsimp only; omega⟩, by dsimp only; omega, leaf_eq ?_⟩
            unfold rgO
            dsimp only
            rw [hd, hn1]
            conv => rhs; unfold rgE
            rw [if_neg c1, if_pos c2, if_neg c3]
        · rw [if_neg c2, dec_t (by omega)]
          refine .inr ⟨.ret, rgZ, rfl, nofun, ?_⟩
          unfold rgO rgT
          dsimp only
          rw [hd]
          unfold rgE
          rw [if_neg c1, if_neg c2]
          exact leaf_f rfl .leaf
    · refine .inr ⟨.exit 0, rgX1 n k (y :: o), ?_, nofun, ?_⟩
      · rw [dec_f hi]
        rfl
      · unfold rgO rgT
        dsimp only
        rw [List.drop_of_length_le (by omega)]
        exact leaf_t rfl (leaf_f rfl .leaf)
theorem af_rGroups_ok : AllOk Tryd.prog 28 af_rGroups := .sums Tryd.func28 (by kernel_rfl) (by kernel_rfl) (by kernel_rfl) (by kernel_rfl) (sums_one (c := rgC) (ts := [0, 4, 5, 6, 7]) (by kernel_rfl) (by kernel_rfl) rg_loop)
/-- what the document's groups come to, of what the loop leaves -/
def rgF (r : Option (Int × Int × List V)) : Option V :=
  bif r.isSome then bif (r.getD (0, 0, [])).2.2.isEmpty then (bif decide ((r.getD (0, 0, [])).2.1 > 0) then some (V.tup [V.ownv 3 (V.rows (Sh.int IntKind.i64) [.int .i64 (r.getD (0, 0, [])).1]), V.bool true]) else some (V.tup [V.ownv 3 (V.rows (Sh.int IntKind.i64) []), V.bool true]))
    else (bif decide ((r.getD (0, 0, [])).2.1 > 0) then (bif andT true ((((r.getD (0, 0, [])).2.2 ++ [V.int .i64 (r.getD (0, 0, [])).1]).length * 8).ble 140737488355328) then some (V.tup [V.ownv 3 (V.rows (Sh.int IntKind.i64) ((r.getD (0, 0, [])).2.2 ++ [.int .i64 (r.getD (0, 0, [])).1])), V.bool true]) else none) else some (V.tup [V.ownv 3 (V.rows (Sh.int IntKind.i64) (r.getD (0, 0, [])).2.2), V.bool true]))
  else some (V.tup [V.ownv 3 (V.rows (Sh.int IntKind.i64) []), V.bool false])
theorem rGroups_u (s : List UInt8) : callV Erg af_rGroups [.str s] = bif okG (rgA s 0 0 0 = rgSt ⟨s, 0, 0, 0, []⟩ ∧ rgI ⟨s, 0, 0, 0, []⟩) then rgF (rgE s 0 0 []) else none := by kernel_rfl
theorem rgE_len : ∀ (l : List UInt8) (n k : Int) (o : List V) (r : Int × Int × List V), rgE l n k o = some r → r.2.2.length ≤ o.length + l.length
  | [], n, k, o, r, h => by
    have h : some (n, k, o) = some r := h
    injection h with h
    subst h
    exact Nat.le_add_right _ _
  | c :: l, n, k, o, r, h => by
    unfold rgE at h
    split at h
    · split at h
      · cases h
      · split at h
        · cases h
        · have := rgE_len l _ _ _ r h
          rw [List.length_append, List.length_singleton] at this
          rw [List.length_cons]
          omega
    · split at h
      · split at h
        · cases h
        · have := rgE_len l _ _ _ r h
          rw [List.length_cons]
          omega
      · cases h
/-- the document's groups -/
def rgL (s : List UInt8) : List V := match rgE s 0 0 [] with | some (n, k, o) => if k > 0 then o ++ [.int .i64 n] else o | none => []
def rgK (s : List UInt8) : Bool := (rgE s 0 0 []).isSome
theorem rGroups_v (s : List UInt8) (h : s.length ≤ 1000) : callV Erg af_rGroups [.str s] = some (.tup [.ownv 3 (.rows (.int .i64) (rgL s)), .bool (rgK s)]) := by
  rw [rGroups_u, okG_t ⟨rfl, Int.le_refl _, by dsimp only; omega, h, Int.le_refl _, by dsimp only; omega, Int.le_refl _, by dsimp only; omega, fun _ => rfl, fun _ => by dsimp only; omega, fun _ => by dsimp only; omega, fun _ => by dsimp only; omega, Int.le_refl _⟩, cond_true]
  unfold rgL rgK
  cases hr : rgE s 0 0 [] with
  | none => rfl
  | some r =>
    obtain ⟨n, k, o⟩ := r
    have hl := rgE_len s 0 0 [] _ hr
    simp only [List.length_nil] at hl
    unfold rgF
    simp only [Option.isSome_some, Option.getD_some, cond_true]
    by_cases hk : k > 0
    · rw [dec_t hk, if_pos hk]
      cases o with
      | nil => rfl
      | cons y o =>
        rw [show (((y :: o) ++ [V.int .i64 n]).length * 8).ble 140737488355328 = true from Nat.ble_eq.mpr (by rw [List.length_append, List.length_singleton]; omega)]
        rfl
    · rw [dec_f hk, if_neg hk]
      cases o with
      | nil => rfl
      | cons y o => rfl
def cRGroups : List V → Option (V × Bool)
  | [.str s] => some (.tup [.ownv 3 (.rows (.int .i64) (rgL s)), .bool (rgK s)], decide (s.length ≤ 1000))
  | _ => none
theorem rGroups_con : ∀ vs v, cRGroups vs = some (v, true) → SpecV Tryd.prog 28 vs v := by
  intro vs v h; unfold cRGroups at h; split at h
  · rename_i s
    injection h with h; injection h with h hb; subst h
    exact callV_ok Erg_ok af_rGroups_ok (rGroups_v _ (of_decide_eq_true hb))
  · cases h
end Go.Proofs.YtbgfpemjdomanaaDoor

namespace Go.Proofs.YtbgfpemjdomanaaDoor
open Go Go.Am Go.RowKit Go.Mix Go.Bas
set_option maxRecDepth 100000
noncomputable def GErd0 : List (Nat × Con) := [(28, .val [.str] cRGroups), (13, .val [.rows (.int .i64)] cAdOf)]
theorem GErd0_ok : GOk Tryd.prog GErd0 := .cons (enters_of Tryd.func28 (by kernel_rfl) rfl) rGroups_con <| .cons (enters_of Tryd.func13 (by kernel_rfl) rfl) rAdOf_con <| .nil
noncomputable def IErd0 : List (Nat × AF) := []
theorem IErd0_ok : IOk Tryd.prog IErd0 := .nil
noncomputable def CErd0 : List (Nat × (List Nat × (S → Option (Bool × Tr)))) := []
theorem CErd0_ok : COk Tryd.prog CErd0 := .nil
noncomputable def XErd0 : List (Nat × (List Sh × (List V → PT))) := []
theorem XErd0_ok : XOk Tryd.prog XErd0 := .nil
noncomputable def Erd0 : Env := ⟨Tryd.prog, GErd0, IErd0, CErd0, XErd0⟩
theorem Erd0_ok : EnvOk Erd0 := ⟨by kernel_rfl, GErd0_ok, IErd0_ok, CErd0_ok, XErd0_ok⟩
def rdS (s : List UInt8) (i a : Int) : S := ⟨[(0, .str s), (2, .ref 0 [] 0 (.barr 16)), (4, .int .i64 a), (5, .int .i64 i)], [(0, some (.var (.barr 16) (.barr 16 (List.replicate 16 0))))], 1, true, 115⟩
def rdX (s : List UInt8) (a : Int) : S := ⟨[(0, .str s), (2, .ref 0 [] 0 (.barr 16)), (4, .int .i64 a)], [(0, some (.var (.barr 16) (.barr 16 (List.replicate 16 0))))], 1, true, 115⟩
structure RdI where
  (s : List UInt8)
  (i a : Int)
def rdGet (s : S) : RdI := ⟨toS (lkD s 0), toI (lkD s 5), toI (lkD s 4)⟩
/-- where two colons stand, from a place on -/
def rdF (s : List UInt8) : Nat → Nat → Int
  | 0, _ => -1
  | k + 1, i => if gt s i = 58 ∧ gt s (i + 1) = 58 then (i : Int) else rdF s k (i + 1)
def rdI (x : RdI) : Prop := 0 ≤ x.i ∧ x.i ≤ x.s.length ∧ x.s.length ≤ 1000 ∧ -1 ≤ x.a ∧ x.a ≤ 1000
def rdO (x : RdI) : Tr := .leaf (.exit 0) (rdX x.s (if x.a < 0 then rdF x.s (x.s.length - 1 - x.i.toNat) x.i.toNat else x.a))
noncomputable def rdG : S → Option (Bool × Tr) := gX rdGet (fun x => rdS x.s x.i x.a) rdI rdO
noncomputable def af_rRead : AF := afOf Tryd.prog Tryd.f15 [.sum [0, 2, 4, 5] [] rdG, .unr 9, .unr 9]
noncomputable def rdC : AC := (af_rRead.ac.sums.headD (.skip, [], [], fun _ => none)).1
theorem rd_b (s : List UInt8) (i a : Int) : aev Erd0 (inlN Erd0 6) rdC (bodyF (Am.ways [0, 2, 4, 5] [0, 2, 4] []) []) (rdS s i a) =
 bif decide (IntKind.i64.wrap (i + (1 : Int)) < (↑s.length : Int)) then
 bif decide (a < (0 : Int)) then
 bif gt s i.toNat == (58 : Int) then
 bif andT (andT true (inB i s.length)) (inB (IntKind.i64.wrap (i + (1 : Int))) s.length) then
 bif gt s (IntKind.i64.wrap (i + (1 : Int))).toNat == (58 : Int) then
 some (Ex.normal, rdS s (IntKind.i64.wrap (i + (1 : Int))) i)
 else some (Ex.normal, rdS s (IntKind.i64.wrap (i + (1 : Int))) a)
 else none
 else bif andT true (inB i s.length) then some (Ex.normal, rdS s (IntKind.i64.wrap (i + (1 : Int))) a) else none
 else some (Ex.exit (0 : Nat), rdX s a)
 else some (Ex.exit (0 : Nat), rdX s a) := by kernel_rfl

theorem rd_loop : LoopOk Tryd.prog rdC.erase [] rdG := by
  refine loopX_ok Erd0_ok (d := 6) (AC.flat_ok (by kernel_rfl)) (Am.ways [0, 2, 4, 5] [0, 2, 4] []) [] rdGet _ rdO rdI (fun x => (x.s.length - x.i).toNat) (fun _ => rfl) ?_
  rintro ⟨s, i, a⟩ ⟨h0, h1, h2, h3, h4⟩
  simp only at h0 h1 h2 h3 h4 ⊢
  rw [rd_b, w64 (x := i + 1) (by omega) (by omega)]
  by_cases hi : i + 1 < s.length
  · by_cases ha : a < 0
    · have hk : s.length - 1 - i.toNat = (s.length - 1 - (i + 1).toNat) + 1 := by omega
      have hn : (i + 1).toNat = i.toNat + 1 := by omega
      rw [dec_t hi, dec_t ha, inB_t h0 (by omega), inB_t (i := i + 1) (by omega) hi]
      by_cases c1 : gt s i.toNat = 58
      · have q1 : (gt s i.toNat == (58 : Int)) = true := by simpa using c1
        by_cases c2 : gt s (i.toNat + 1) = 58
        · have q2 : (gt s (i + 1).toNat == (58 : Int)) = true := by rw [hn]; simpa using c2
          rw [q1, q2]
          refine .inl ⟨⟨s, i + 1, i⟩, rfl, ⟨by dsimp only; omega, by dsimp only; omega, h2, by dsimp only; omega, by dsimp only; omega⟩, by dsimp only; omega, leaf_eq ?_⟩
          unfold rdO
          dsimp only
          rw [if_neg (show ¬ i < 0 by omega), if_pos ha, hk]
          have e : rdF s ((s.length - 1 - (i + 1).toNat) + 1) i.toNat = i := by
            show (if _ then _ else _) = _
            rw [if_pos ⟨c1, c2⟩]
            omega
          rw [e]
        · have q2 : (gt s (i + 1).toNat == (58 : Int)) = false := by rw [hn]; simpa using c2
          rw [q1, q2]
          refine .inl ⟨⟨s, i + 1, a⟩, rfl, ⟨by dsimp only; omega, by dsimp only; omega, h2, h3, h4⟩, by dsimp only; omega, leaf_eq ?_⟩
          unfold rdO
          dsimp only
          rw [if_pos ha, if_pos ha, hk]
          have e : rdF s ((s.length - 1 - (i + 1).toNat) + 1) i.toNat = rdF s (s.length - 1 - (i + 1).toNat) (i.toNat + 1) := by
            show (if _ then _ else _) = _
            rw [if_neg (fun h => c2 h.2)]
          rw [e, hn]
      · have q1 : (gt s i.toNat == (58 : Int)) = false := by simpa using c1
        rw [q1]
        refine .inl ⟨⟨s, i + 1, a⟩, rfl, ⟨by dsimp only; omega, by dsimp only; omega, h2, h3, h4⟩, by dsimp only; omega, leaf_eq ?_⟩
        unfold rdO
        dsimp only
        rw [if_pos ha, if_pos ha, hk]
        have e : rdF s ((s.length - 1 - (i + 1).toNat) + 1) i.toNat = rdF s (s.length - 1 - (i + 1).toNat) (i.toNat + 1) := by
          show (if _ then _ else _) = _
          rw [if_neg (fun h => c1 h.1)]
        rw [e, hn]
    · refine .inr ⟨.exit 0, rdX s a, ?_, nofun, ?_⟩
      · rw [dec_t hi, dec_f ha]
        rfl
      · unfold rdO
        dsimp only
        rw [if_neg ha]
        exact .leaf
  · refine .inr ⟨.exit 0, rdX s a, ?_, nofun, ?_⟩
    · rw [dec_f hi]
      rfl
    · unfold rdO
      dsimp only
      have hk : s.length - 1 - i.toNat = 0 := by omega
      rw [hk]
      by_cases ha : a < 0
      · rw [if_pos ha]
        obtain rfl : a = -1 := by omega
        exact .leaf
      · rw [if_neg ha]
        exact .leaf
end Go.Proofs.YtbgfpemjdomanaaDoor

namespace Go.Proofs.YtbgfpemjdomanaaDoor
open Go Go.Am Go.RowKit Go.Mix Go.Bas
set_option maxRecDepth 100000
def rcW (l m w : List V) : List (Nat × Option Blk) := [(0, some (.var (.barr 16) (.barr 16 (List.replicate 16 0)))), (1, some (.row 3 (.int .i64) (.rows (.int .i64) l))), (2, some (.row 3 (.int .i64) (.rows (.int .i64) m))), (3, some (.var (.arr 8 (.int .i64)) (.arr (.int .i64) 8 w)))]
def rcS (l m w : List V) (j : Int) : S := ⟨[(2, .ref 0 [] 0 (.barr 16)), (8, .own 1 l.length (.int .i64)), (10, .own 2 m.length (.int .i64)), (12, .ref 3 [] 0 (.arr 8 (.int .i64))), (13, .int .i64 j)], rcW l m w, 4, true, 115⟩
def rcX (m w : List V) : S := ⟨[(2, .ref 0 [] 0 (.barr 16)), (10, .own 1 m.length (.int .i64)), (12, .ref 2 [] 0 (.arr 8 (.int .i64)))], [(0, some (.var (.barr 16) (.barr 16 (List.replicate 16 0)))), (1, some (.row 3 (.int .i64) (.rows (.int .i64) m))), (2, some (.var (.arr 8 (.int .i64)) (.arr (.int .i64) 8 w)))], 3, true, 115⟩
structure RcI where
  (l m w : List V)
  (j : Int)
def rcGet (s : S) : RcI := ⟨toR (bkD s 1), toR (bkD s 2), Am.toE (bkD s 3), toI (lkD s 13)⟩
/-- numbers copied, one by one -/
def cpF (l : List V) : Nat → Nat → List V → List V
  | 0, _, w => w
  | k + 1, j, w => cpF l k (j + 1) (w.set j (eta (.int .i64) (l.getD j .undef)))
def rcI (x : RcI) : Prop := 0 ≤ x.j ∧ x.j ≤ x.l.length ∧ x.l.length ≤ 8
def rcO (x : RcI) : Tr := .leaf (.exit 2) (rcX x.m (cpF x.l (x.l.length - x.j.toNat) x.j.toNat x.w))
noncomputable def rcG : S → Option (Bool × Tr) := gX rcGet (fun x => rcS x.l x.m x.w x.j) rcI rcO
noncomputable def af_rReadC : AF := afOf Tryd.prog Tryd.f15 [.sum [0, 2, 4, 5] [] rdG, .sum [2, 8, 10, 12, 13] [] rcG, .unr 9]
noncomputable def rcC : AC := (((af_rReadC.ac.sums).drop 1).headD (.skip, [], [], fun _ => none)).1
theorem rc_b (l m w : List V) (j : Int) : aev Erd0 (inlN Erd0 6) rcC (bodyF (Am.ways [2, 8, 10, 12, 13] [2, 10, 12] []) []) (rcS l m w j) =
 bif decide (j < (↑l.length : Int)) then
 bif andT (andT true (inB j l.length)) (inB j (8 : Nat)) then
 some
 (Ex.normal,
 rcS l m (w.set j.toNat (eta (Sh.int IntKind.i64) (l.getD j.toNat V.undef)))
 (IntKind.i64.wrap (j + (1 : Int))))
 else none
 else some (Ex.exit (2 : Nat), rcX m w) := by kernel_rfl

theorem rc_loop : LoopOk Tryd.prog rcC.erase [] rcG := by
  refine loopX_ok Erd0_ok (d := 6) (AC.flat_ok (by kernel_rfl)) (Am.ways [2, 8, 10, 12, 13] [2, 10, 12] []) [] rcGet _ rcO rcI (fun x => (x.l.length - x.j).toNat) (fun _ => rfl) ?_
  rintro ⟨l, m, w, j⟩ ⟨h0, h1, h2⟩
  simp only at h0 h1 h2 ⊢
  rw [rc_b]
  by_cases hj : j < l.length
  · have hk : l.length - j.toNat = (l.length - (j + 1).toNat) + 1 := by omega
    have hn : (j + 1).toNat = j.toNat + 1 := by omega
    rw [dec_t hj, inB_t h0 hj, inB_t h0 (n := 8) (by omega), w64 (by omega) (by omega)]
    refine .inl ⟨⟨l, m, w.set j.toNat (eta (.int .i64) (l.getD j.toNat .undef)), j + 1⟩, rfl, ⟨by dsimp only; omega, by dsimp only; omega, h2⟩, by dsimp only; omega, leaf_eq ?_⟩
    unfold rcO
    dsimp only
    rw [hk, hn]
    rfl
  · refine .inr ⟨.exit 2, rcX m w, ?_, nofun, ?_⟩
    · rw [dec_f hj]
      rfl
    · unfold rcO
      dsimp only
      rw [show l.length - j.toNat = 0 by omega]
      exact .leaf
end Go.Proofs.YtbgfpemjdomanaaDoor

namespace Go.Proofs.YtbgfpemjdomanaaDoor
open Go Go.Am Go.RowKit Go.Mix Go.Bas
set_option maxRecDepth 100000
def ryS (m w : List V) (j : Int) : S := ⟨[(2, .ref 0 [] 0 (.barr 16)), (10, .own 1 m.length (.int .i64)), (12, .ref 2 [] 0 (.arr 8 (.int .i64))), (14, .int .i64 j)], [(0, some (.var (.barr 16) (.barr 16 (List.replicate 16 0)))), (1, some (.row 3 (.int .i64) (.rows (.int .i64) m))), (2, some (.var (.arr 8 (.int .i64)) (.arr (.int .i64) 8 w)))], 3, true, 115⟩
def ryX (w : List V) : S := ⟨[(2, .ref 0 [] 0 (.barr 16)), (12, .ref 1 [] 0 (.arr 8 (.int .i64)))], [(0, some (.var (.barr 16) (.barr 16 (List.replicate 16 0)))), (1, some (.var (.arr 8 (.int .i64)) (.arr (.int .i64) 8 w)))], 2, true, 115⟩
structure RyI where
  (m w : List V)
  (j : Int)
def ryGet (s : S) : RyI := ⟨toR (bkD s 1), Am.toE (bkD s 2), toI (lkD s 14)⟩
/-- numbers copied to the end -/
def cpG (m : List V) : Nat → Nat → List V → List V
  | 0, _, w => w
  | k + 1, j, w => cpG m k (j + 1) (w.set (8 - m.length + j) (eta (.int .i64) (m.getD j .undef)))
def ryI (x : RyI) : Prop := 0 ≤ x.j ∧ x.j ≤ x.m.length ∧ x.m.length ≤ 8
def ryO (x : RyI) : Tr := .leaf (.exit 4) (ryX (cpG x.m (x.m.length - x.j.toNat) x.j.toNat x.w))
noncomputable def ryG : S → Option (Bool × Tr) := gX ryGet (fun x => ryS x.m x.w x.j) ryI ryO
noncomputable def af_rReadY : AF := afOf Tryd.prog Tryd.f15 [.sum [0, 2, 4, 5] [] rdG, .sum [2, 8, 10, 12, 13] [] rcG, .sum [2, 10, 12, 14] [] ryG]
noncomputable def ryC : AC := (((af_rReadY.ac.sums).drop 2).headD (.skip, [], [], fun _ => none)).1
theorem ry_b (m w : List V) (j : Int) : aev Erd0 (inlN Erd0 6) ryC (bodyF (Am.ways [2, 10, 12, 14] [2, 12] []) []) (ryS m w j) =
 bif decide (j < (↑m.length : Int)) then
 bif
 andT (andT true (inB j m.length))
 (inB (IntKind.i64.wrap (IntKind.i64.wrap ((8 : Int) - (↑m.length : Int)) + j)) (8 : Nat)) then
 some
 (Ex.normal,
 ryS m
 (w.set (IntKind.i64.wrap (IntKind.i64.wrap ((8 : Int) - (↑m.length : Int)) + j)).toNat
 (eta (Sh.int IntKind.i64) (m.getD j.toNat V.undef)))
 (IntKind.i64.wrap (j + (1 : Int))))
 else none
 else some (Ex.exit (4 : Nat), ryX w) := by kernel_rfl

theorem ry_loop : LoopOk Tryd.prog ryC.erase [] ryG := by
  refine loopX_ok Erd0_ok (d := 6) (AC.flat_ok (by kernel_rfl)) (Am.ways [2, 10, 12, 14] [2, 12] []) [] ryGet _ ryO ryI (fun x => (x.m.length - x.j).toNat) (fun _ => rfl) ?_
  rintro ⟨m, w, j⟩ ⟨h0, h1, h2⟩
  simp only at h0 h1 h2 ⊢
  rw [ry_b]
  by_cases hj : j < m.length
  · have hk : m.length - j.toNat = (m.length - (j + 1).toNat) + 1 := by omega
    have hn : (j + 1).toNat = j.toNat + 1 := by omega
    have hx : ((8 : Int) - (m.length : Int) + j).toNat = 8 - m.length + j.toNat := by omega
    rw [dec_t hj, inB_t h0 hj, w64 (x := (8 : Int) - (m.length : Int)) (by omega) (by omega), w64 (x := (8 : Int) - (m.length : Int) + j) (by omega) (by omega), inB_t (n := 8) (by omega) (by omega), w64 (by omega) (by omega), hx]
    refine .inl ⟨⟨m, w.set (8 - m.length + j.toNat) (eta (.int .i64) (m.getD j.toNat .undef)), j + 1⟩, rfl, ⟨by dsimp only; omega, by dsimp only; omega, h2⟩, by dsimp only; omega, leaf_eq ?_⟩
    unfold ryO
    dsimp only
    rw [hk, hn]
    rfl
  · refine .inr ⟨.exit 4, ryX w, ?_, nofun, ?_⟩
    · rw [dec_f hj]
      rfl
    · unfold ryO
      dsimp only
      rw [show m.length - j.toNat = 0 by omega]
      exact .leaf
theorem sums_three {P : Program} {ac c c2 c3 : AC} {ts vs ts2 vs2 ts3 vs3 : List Nat} {g g2 g3 : S → Option (Bool × Tr)} (e : ac.sums = [(c, ts, vs, g), (c2, ts2, vs2, g2), (c3, ts3, vs3, g3)]) (e' : ac.jmps = []) (h : LoopOk P c.erase vs g) (h2 : LoopOk P c2.erase vs2 g2) (h3 : LoopOk P c3.erase vs3 g3) : LoopsOk P ac :=
  .of (by
    rw [e]; intro x hx
    simp only [List.mem_cons, List.not_mem_nil, or_false] at hx
    rcases hx with rfl | rfl | rfl
    · exact h
    · exact h2
    · exact h3) (by rw [e']; intro x hx; cases hx)
theorem af_rReadY_ok : AllOk Tryd.prog 15 af_rReadY := .sums Tryd.func15 (by kernel_rfl) (by kernel_rfl) (by kernel_rfl) (by kernel_rfl) (sums_three (c := rdC) (c2 := rcC) (c3 := ryC) (ts := [0, 2, 4, 5]) (ts2 := [2, 8, 10, 12, 13]) (ts3 := [2, 10, 12, 14]) (by kernel_rfl) (by kernel_rfl) rd_loop rc_loop ry_loop)
def rdAt (s : List UInt8) : Int := rdF s (s.length - 1 - 0) 0
def rdA (s : List UInt8) : List UInt8 := cutL s 0 (rdAt s).toNat
def rdB (s : List UInt8) : List UInt8 := cutL s (IntKind.i64.wrap (rdAt s + 2)).toNat s.length
def rdZ : List V := List.replicate 8 (.int .i64 0)
def rdV (s : List UInt8) : List V := cpF (rgL (rdA s)) ((rgL (rdA s)).length - 0) 0 rdZ
def rdW (s : List UInt8) : List V := cpG (rgL (rdB s)) ((rgL (rdB s)).length - 0) 0 (rdV s)
def rdN : Option V := some (V.tup [V.barr 16 (List.replicate 16 0), V.int .i64 5])
theorem rReadY_u (s : List UInt8) : callV Erd0 af_rReadY [.str s] =
 bif okG (rdS s 0 (-1) = rdS s 0 (-1) ∧ rdI ⟨s, 0, -1⟩) then bif decide (rdAt s < 0) then
 bif andT true (decide (s.length ≤ 1000)) then bif !rgK s then rdN else bif ((rgL s).length : Int) != 8 then rdN else bif andT true (decide ((rgL s).length ≤ 20)) then some (V.tup [V.barr 16 (ofL (rgL s)), V.int .i64 0]) else none else none
 else bif andT (andT true (Am.inC (rdAt s) s.length)) (decide ((rdA s).length ≤ 1000)) then bif andT (andT true (Am.inC (IntKind.i64.wrap (rdAt s + 2)) s.length)) (decide ((rdB s).length ≤ 1000)) then
 bif !rgK (rdA s) then rdN else bif !rgK (rdB s) then rdN else bif decide (IntKind.i64.wrap (((rgL (rdA s)).length : Int) + ((rgL (rdB s)).length : Int)) > 7) then rdN
 else bif okG (rcS (rgL (rdA s)) (rgL (rdB s)) rdZ 0 = rcS (rgL (rdA s)) (rgL (rdB s)) rdZ 0 ∧ rcI ⟨rgL (rdA s), rgL (rdB s), rdZ, 0⟩) then bif okG (ryS (rgL (rdB s)) (rdV s) 0 = ryS (rgL (rdB s)) (rdV s) 0 ∧ ryI ⟨rgL (rdB s), rdV s, 0⟩) then
 bif andT true (decide ((cutL (rdW s) 0 8).length ≤ 20)) then some (V.tup [V.barr 16 (ofL (cutL (rdW s) 0 8)), V.int .i64 0]) else none
 else none else none
 else none else none
 else none := by kernel_rfl
end Go.Proofs.YtbgfpemjdomanaaDoor

namespace Go.Proofs.YtbgfpemjdomanaaDoor
open Go Go.Am Go.RowKit Go.Mix Go.Bas
set_option maxRecDepth 100000
theorem rdF_rng (s : List UInt8) : ∀ k i, rdF s k i = -1 ∨ ((i : Int) ≤ rdF s k i ∧ rdF s k i < (i : Int) + k)
  | 0, _ => .inl rfl
  | k + 1, i => by
    have ih := rdF_rng s k (i + 1)
    unfold rdF
    split
    · exact .inr ⟨Int.le_refl _, by omega⟩
    · rcases ih with h | h
      · exact .inl h
      · exact .inr ⟨by omega, by omega⟩
theorem rdAt_rng (s : List UInt8) : rdAt s = -1 ∨ (0 ≤ rdAt s ∧ rdAt s + 1 < s.length) := by
  unfold rdAt
  rcases rdF_rng s (s.length - 1 - 0) 0 with h | h
  · exact .inl h
  · exact .inr ⟨by omega, by omega⟩
theorem cpF_len (l : List V) : ∀ k j w, (cpF l k j w).length = w.length
  | 0, _, _ => rfl
  | k + 1, j, w => by show (cpF l k (j + 1) _).length = _; rw [cpF_len l k, List.length_set]
theorem cpG_len (m : List V) : ∀ k j w, (cpG m k j w).length = w.length
  | 0, _, _ => rfl
  | k + 1, j, w => by show (cpG m k (j + 1) _).length = _; rw [cpG_len m k, List.length_set]
theorem rdW_len (s : List UInt8) : (rdW s).length = 8 := by
  unfold rdW rdV
  rw [cpG_len, cpF_len]
  rfl
/-- the numbers that the document reads; none: it is no address -/
def rdQ (s : List UInt8) : Option (List V) :=
  if rdAt s < 0 then (if rgK s = true ∧ (rgL s).length = 8 then some (rgL s) else none)
  else if rgK (rdA s) = true ∧ rgK (rdB s) = true ∧ (rgL (rdA s)).length + (rgL (rdB s)).length ≤ 7 then some (rdW s) else none
def rdAns (q : Option (List V)) : V := match q with
  | some l => .tup [.barr 16 (ofL l), .int .i64 0]
  | none => .tup [.barr 16 (List.replicate 16 0), .int .i64 5]
theorem cutW (s : List UInt8) : cutL (rdW s) 0 8 = rdW s := by
  unfold cutL
  rw [List.drop_zero, List.take_of_length_le (by rw [rdW_len]; omega)]
theorem cutL_le (s : List UInt8) (i j : Nat) : (cutL s i j).length ≤ s.length := by
  unfold cutL
  rw [List.length_take, List.length_drop]
  omega
theorem rgL_len (s : List UInt8) : (rgL s).length ≤ s.length + 1 := by
  unfold rgL
  cases hr : rgE s 0 0 [] with
  | none => simp
  | some r =>
    obtain ⟨n, k, o⟩ := r
    have := rgE_len s 0 0 [] _ hr
    simp only [List.length_nil] at this
    dsimp only
    split
    · rw [List.length_append, List.length_singleton]; omega
    · omega
theorem rReadY_v (s : List UInt8) (h : s.length ≤ 900) : callV Erd0 af_rReadY [.str s] = some (rdAns (rdQ s)) := by
  have hA := cutL_le s 0 (rdAt s).toNat
  have hB := cutL_le s (IntKind.i64.wrap (rdAt s + 2)).toNat s.length
  have lA := rgL_len (rdA s)
  have lB := rgL_len (rdB s)
  have eA : (rdA s).length ≤ 1000 := by unfold rdA; omega
  have eB : (rdB s).length ≤ 1000 := by unfold rdB; omega
  rw [rReadY_u, okG_t ⟨rfl, Int.le_refl _, by dsimp only; omega, by dsimp only; omega, by dsimp only; omega, by dsimp only; omega⟩, cond_true]
  rcases rdAt_rng s with ha | ⟨ha0, ha1⟩
  · rw [dec_t (show rdAt s < 0 by omega), dec_t (show s.length ≤ 1000 by omega)]
    unfold rdQ
    rw [if_pos (show rdAt s < 0 by omega)]
    cases hk : rgK s with
    | false => rfl
    | true =>
      by_cases h8 : (rgL s).length = 8
      · rw [if_pos ⟨rfl, h8⟩, show (((rgL s).length : Int) != 8) = false by rw [h8]; rfl, dec_t (show (rgL s).length ≤ 20 by omega)]
        rfl
      · rw [if_neg (fun e => h8 e.2), show (((rgL s).length : Int) != 8) = true by simp; omega]
        rfl
  · rw [dec_f (show ¬ rdAt s < 0 by omega), inC_t ha0 (by omega), w64 (x := rdAt s + 2) (by omega) (by omega), inC_t (show 0 ≤ rdAt s + 2 by omega) (by omega), dec_t eA, dec_t eB]
    unfold rdQ
    rw [if_neg (show ¬ rdAt s < 0 by omega)]
    cases hk : rgK (rdA s) with
    | false => rfl
    | true =>
      cases hk2 : rgK (rdB s) with
      | false => rfl
      | true =>
        rw [w64 (by omega) (by omega)]
        by_cases h7 : (rgL (rdA s)).length + (rgL (rdB s)).length ≤ 7
        · rw [if_pos ⟨rfl, rfl, h7⟩, dec_f (show ¬ (((rgL (rdA s)).length : Int) + ((rgL (rdB s)).length : Int) > 7) by omega), okG_t ⟨rfl, Int.le_refl _, by dsimp only; omega, by dsimp only; omega⟩, okG_t ⟨rfl, Int.le_refl _, by dsimp only; omega, by dsimp only; omega⟩, cutW, dec_t (show (rdW s).length ≤ 20 by rw [rdW_len]; omega)]
          rfl
        · rw [if_neg (fun e => h7 e.2.2), dec_t (show ((rgL (rdA s)).length : Int) + ((rgL (rdB s)).length : Int) > 7 by omega)]
          rfl
end Go.Proofs.YtbgfpemjdomanaaDoor
