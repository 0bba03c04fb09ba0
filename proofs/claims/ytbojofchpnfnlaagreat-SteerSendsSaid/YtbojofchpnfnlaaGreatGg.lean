/- Part Gg of the proof: laws used by the law of this claim. -/
import Derived.Test.YtbojofchpnfnlaaGreatProg
import Derived.Test.YtbojofchpnfnlaaGreatGd
import Derived.Test.YtbojofchpnfnlaaGreatGk
import Derived.Test.YtbojofchpnfnlaaGreatGf
import Derived.Test.YtbojofchpnfnlaaGreatGe
set_option linter.all false
namespace Go.Proofs.YtbojofchpnfnlaaGreat
open Go.RowKit Go.Mix Go.Bas

def parse (l : List UInt8) : Option (List (Int × List UInt8)) :=
  match l with
  | [] => some []
  | [x] => if x = 0 then some [] else none
  | x :: m :: s =>
    if x = 0 then parse (m :: s) else if s.length < m.toNat then none
    else if x = 4 then parse (s.drop m.toNat) else (parse (s.drop m.toNat)).map (((x.toNat : Int), s.take m.toNat) :: ·)
termination_by l.length
decreasing_by all_goals (simp only [List.length_cons, List.length_drop]; omega)

end Go.Proofs.YtbojofchpnfnlaaGreat

namespace Go.Proofs.YtbojofchpnfnlaaGreat
open Go.RowKit Go.Mix Go.Bas

end Go.Proofs.YtbojofchpnfnlaaGreat

namespace Go.Proofs.YtbojofchpnfnlaaGreat
open Go Go.Am Go.RowKit Go.Mix Go.Bas
set_option maxRecDepth 100000
def tlP (v : V) : Int × List UInt8 := (toI ((toG v).headD .undef), toL ((toG v).tail.headD .undef))
def tls (l : List V) : List (Int × List UInt8) := l.map tlP
theorem tls_next {l : List V} {k : Nat} (h : k < l.length) : tls (l.drop k) = tlP (l.getD k .undef) :: tls (l.drop (k + 1)) := by
  rw [drop_next (d := V.undef) h]; rfl
abbrev tlB (p : Int × List UInt8) : Prop := p.1 ≤ 0 ∨ 255 < p.1 ∨ p.1 = 4
def tcE : List (Int × List UInt8) → Int
  | [] => 0
  | p :: r => if tlB p then 2 else if 255 < p.2.length then 4 else tcE r
def tcN (left : Int) (n : Nat) : Int := if left < 0 then left else left - (2 + n)
def tcL : Int → List (Int × List UInt8) → Int
  | left, [] => left
  | left, p :: r => if tlB p then left else if 255 < p.2.length then left else tcL (tcN left p.2.length) r
theorem can_tc : ∀ (L : List (Int × List UInt8)) (left : Int), can left L = if tcE L = 0 then (if tcL left L < 0 then 8 else 0) else tcE L
  | [], left => by rw [can, tcE, tcL, if_pos rfl]
  | p :: r, left => by
    rw [can, tcE, tcL]
    by_cases h1 : tlB p
    · rw [if_pos h1, if_pos h1]; rfl
    · rw [if_neg h1, if_neg h1, if_neg h1]
      by_cases h2 : 255 < p.2.length
      · rw [if_pos h2, if_pos h2]; rfl
      · rw [if_neg h2, if_neg h2, if_neg h2]
        exact can_tc r _
/-! ### tlv.Can -/
def tcX (e left : Int) : S := ⟨[(2, .int .i64 e), (3, .int .i64 left)], [], 0, true, 43⟩
def tcT (l : List V) (left r : Int) : Tr := .br (decide (tcE (tls l) = 0)) (.leaf (.exit 0) (tcX r (tcL left (tls l)))) (.leaf .ret (tcX (tcE (tls l)) (tcL left (tls l))))
def tcG : S → Option (Bool × Tr) := gOf 43 0 fun sl _ => match sl 7, sl 8, sl 9, sl 3, sl 2 with
  | some (.rows (.agg [.int .i64, .bytes]) l), some (.int .i64 n), some (.int .i64 i), some (.int .i64 left), some (.int .i64 r) => some (decide (n = l.length ∧ 0 ≤ i ∧ i ≤ n ∧ n ≤ 4611686018427387904 ∧ -257 ≤ left ∧ left ≤ 256), tcT (l.drop i.toNat) left r)
  | _, _, _, _, _ => none
noncomputable def af_tlvCan : AF := afOf Tryz.prog Tryz.f137 [.sum [7, 8, 9, 3, 2] [] tcG]
noncomputable def tcC : AC := (af_tlvCan.ac.sums.headD (.skip, [], [], fun _ => none)).1
def tcSt (l : List V) (n i left r : Int) : S := ⟨[(7, .rows (.agg [.int .i64, .bytes]) l), (8, .int .i64 n), (9, .int .i64 i), (3, .int .i64 left), (2, .int .i64 r)], [], 0, true, 43⟩
noncomputable def GEtv0 : List (Nat × Con) := []
theorem GEtv0_ok : GOk Tryz.prog GEtv0 := .nil
noncomputable def IEtv0 : List (Nat × AF) := []
theorem IEtv0_ok : IOk Tryz.prog IEtv0 := .nil
noncomputable def CEtv0 : List (Nat × (List Nat × (S → Option (Bool × Tr)))) := []
theorem CEtv0_ok : COk Tryz.prog CEtv0 := .nil
noncomputable def XEtv0 : List (Nat × (List Sh × (List V → PT))) := []
theorem XEtv0_ok : XOk Tryz.prog XEtv0 := .nil
noncomputable def Etv0 : Env := ⟨Tryz.prog, GEtv0, IEtv0, CEtv0, XEtv0⟩
theorem Etv0_ok : EnvOk Etv0 := ⟨by kernel_rfl, GEtv0_ok, IEtv0_ok, CEtv0_ok, XEtv0_ok⟩
theorem tlvCan_b (l : List V) (n i left r : Int) : aev Etv0 (inlN Etv0 6) tcC (bodyK [7, 8, 9, 3, 2] [2, 3] []) (tcSt l n i left r) =
    bif decide (i < n) then
        bif andT true (inB i l.length) then
          bif decide (toI ((toG (l.getD i.toNat V.undef)).headD V.undef) ≤ (0 : Int)) then
            some
              (Ex.ret,
                { sl := [((2 : Nat), V.int IntKind.i64 (2 : Int)), ((3 : Nat), V.int IntKind.i64 left)], hp := [],
                  nx := (0 : Nat), ob := true, n := (43 : Nat) })
          else
            bif decide (toI ((toG (l.getD i.toNat V.undef)).headD V.undef) > (255 : Int)) then
              some
                (Ex.ret,
                  { sl := [((2 : Nat), V.int IntKind.i64 (2 : Int)), ((3 : Nat), V.int IntKind.i64 left)], hp := [],
                    nx := (0 : Nat), ob := true, n := (43 : Nat) })
            else
              bif toI ((toG (l.getD i.toNat V.undef)).headD V.undef) == (4 : Int) then
                some
                  (Ex.ret,
                    { sl := [((2 : Nat), V.int IntKind.i64 (2 : Int)), ((3 : Nat), V.int IntKind.i64 left)], hp := [],
                      nx := (0 : Nat), ob := true, n := (43 : Nat) })
              else
                bif decide ((↑(toL ((toG (l.getD i.toNat V.undef)).tail.headD V.undef)).length : Int) > (255 : Int)) then
                  some
                    (Ex.ret,
                      { sl := [((2 : Nat), V.int IntKind.i64 (4 : Int)), ((3 : Nat), V.int IntKind.i64 left)], hp := [],
                        nx := (0 : Nat), ob := true, n := (43 : Nat) })
                else
                  bif decide (left ≥ (0 : Int)) then
                    some
                      (Ex.normal,
                        {
                          sl :=
                            [((7 : Nat), V.rows (Sh.agg [Sh.int IntKind.i64, Sh.bytes]) l),
                              ((8 : Nat), V.int IntKind.i64 n),
                              ((9 : Nat), V.int IntKind.i64 (IntKind.i64.wrap (i + (1 : Int)))),
                              ((3 : Nat),
                                V.int IntKind.i64
                                  (IntKind.i64.wrap
                                    (left -
                                      IntKind.i64.wrap
                                        ((2 : Int) +
                                          (↑(toL ((toG (l.getD i.toNat V.undef)).tail.headD V.undef)).length : Int))))),
                              ((2 : Nat), V.int IntKind.i64 r)],
                          hp := [], nx := (0 : Nat), ob := true, n := (43 : Nat) })
                  else
                    some
                      (Ex.normal,
                        {
                          sl :=
                            [((7 : Nat), V.rows (Sh.agg [Sh.int IntKind.i64, Sh.bytes]) l),
                              ((8 : Nat), V.int IntKind.i64 n),
                              ((9 : Nat), V.int IntKind.i64 (IntKind.i64.wrap (i + (1 : Int)))),
                              ((3 : Nat), V.int IntKind.i64 left), ((2 : Nat), V.int IntKind.i64 r)],
                          hp := [], nx := (0 : Nat), ob := true, n := (43 : Nat) })
        else none
      else
        some
          (Ex.exit (0 : Nat),
            { sl := [((2 : Nat), V.int IntKind.i64 r), ((3 : Nat), V.int IntKind.i64 left)], hp := [], nx := (0 : Nat),
              ob := true, n := (43 : Nat) }) := by kernel_rfl

structure TcS where
  (l : List V)
  (n i left r : Int)
theorem tc_loop : LoopOk Tryz.prog tcC.erase [] tcG := by
  refine loop_ok Etv0_ok (d := 6) (AC.flat_ok (by kernel_rfl)) [7, 8, 9, 3, 2] [2, 3] [] tcG (X := TcS) (fun x => tcSt x.l x.n x.i x.left x.r) (fun x => tcT (x.l.drop x.i.toNat) x.left x.r)
    (fun x => x.n = x.l.length ∧ 0 ≤ x.i ∧ x.i ≤ x.n ∧ x.n ≤ 4611686018427387904 ∧ -257 ≤ x.left ∧ x.left ≤ 256) (fun x => (x.n - x.i).toNat) ?_ ?_
  · intro s t h
    obtain ⟨h1, h2, h3, h⟩ := gOf_spec h
    split at h
    · rename_i l n i left r q1 q2 q3 q4 q5
      injection h with h; injection h with hc ht
      exact ⟨⟨l, n, i, left, r⟩, .one h1 h2 (by simp [q1, q2, q3, q4, q5]) (by simp), of_decide_eq_true hc, ht.symm⟩
    · cases h
  · rintro ⟨l, n, i, left, r⟩ ⟨hn, h0, h1, hM, hl, hh⟩
    simp only at hn h0 h1 hM hl hh ⊢
    subst hn
    rw [tlvCan_b]
    obtain ⟨k, rfl⟩ := Int.eq_ofNat_of_zero_le h0
    simp only [Int.toNat_natCast]
    by_cases hlt : k < l.length
    · have hd := tls_next hlt
      change _ = (toI ((toG (l.getD k .undef)).headD .undef), toL ((toG (l.getD k .undef)).tail.headD .undef)) :: _ at hd
      obtain ⟨kd, hkd⟩ : ∃ kd, toI ((toG (l.getD k .undef)).headD .undef) = kd := ⟨_, rfl⟩
      obtain ⟨d, hdd⟩ : ∃ d, toL ((toG (l.getD k .undef)).tail.headD .undef) = d := ⟨_, rfl⟩
      simp only [hkd, hdd] at hd ⊢
      by_cases hB : tlB (kd, d)
      · refine .inr ⟨.ret, tcX 2 left, ?_, nofun, leaf_f (by rw [hd, tcE, if_pos hB]; rfl) (by rw [hd, tcE, tcL, if_pos hB, if_pos hB]; exact .leaf)⟩
        change kd ≤ 0 ∨ 255 < kd ∨ kd = 4 at hB
        by_cases a1 : kd ≤ 0
        · simp (disch := omega) only [dec_t, dec_f, inB_t, inC_t, andT_t, cond_true, cond_false, Bool.and_true, Bool.true_and, w64, wu32, wu8, nble_t, nblt_t, Bool.not_true, Bool.not_false, Bool.not_not, ieq_t, ieq_f, ine_t, ine_f, true_and, and_true, andT_l]
          rfl
        · by_cases a2 : kd > 255
          · simp (disch := omega) only [dec_t, dec_f, inB_t, inC_t, andT_t, cond_true, cond_false, Bool.and_true, Bool.true_and, w64, wu32, wu8, nble_t, nblt_t, Bool.not_true, Bool.not_false, Bool.not_not, ieq_t, ieq_f, ine_t, ine_f, true_and, and_true, andT_l]
            rfl
          · have a3 : kd = 4 := by omega
            simp (disch := omega) only [dec_t, dec_f, inB_t, inC_t, andT_t, cond_true, cond_false, Bool.and_true, Bool.true_and, w64, wu32, wu8, nble_t, nblt_t, Bool.not_true, Bool.not_false, Bool.not_not, ieq_t, ieq_f, ine_t, ine_f, true_and, and_true, andT_l]
            rfl
      · have hB' : ¬ (kd ≤ 0 ∨ 255 < kd ∨ kd = 4) := hB
        by_cases hL : 255 < d.length
        · refine .inr ⟨.ret, tcX 4 left, ?_, nofun, leaf_f (by rw [hd, tcE, if_neg hB, if_pos hL]; rfl) (by rw [hd, tcE, tcL, if_neg hB, if_neg hB, if_pos hL, if_pos hL]; exact .leaf)⟩
          simp (disch := omega) only [dec_t, dec_f, inB_t, inC_t, andT_t, cond_true, cond_false, Bool.and_true, Bool.true_and, w64, wu32, wu8, nble_t, nblt_t, Bool.not_true, Bool.not_false, Bool.not_not, ieq_t, ieq_f, ine_t, ine_f, true_and, and_true, andT_l]
          rfl
        · have hT : ∀ r, tcT (l.drop k) left r = tcT (l.drop (k + 1)) (tcN left d.length) r := by
            intro r
            unfold tcT
            rw [hd, tcE, tcL, if_neg hB, if_neg hB, if_neg hL, if_neg hL]
          refine .inl ⟨⟨l, l.length, k + 1, tcN left d.length, r⟩, ?_, ⟨rfl, by dsimp only; omega, by dsimp only; omega, hM, ?_, ?_⟩, by dsimp only; omega, leaf_eq (by show tcT (l.drop (k + 1)) (tcN left d.length) r = tcT (l.drop k) left r; exact (hT r).symm)⟩
          · unfold tcN
            by_cases hz : left < 0
            · rw [if_pos hz]
              simp (disch := omega) only [dec_t, dec_f, inB_t, inC_t, andT_t, cond_true, cond_false, Bool.and_true, Bool.true_and, w64, wu32, wu8, nble_t, nblt_t, Bool.not_true, Bool.not_false, Bool.not_not, ieq_t, ieq_f, ine_t, ine_f, true_and, and_true, andT_l]
              rfl
            · rw [if_neg hz]
              simp (disch := omega) only [dec_t, dec_f, inB_t, inC_t, andT_t, cond_true, cond_false, Bool.and_true, Bool.true_and, w64, wu32, wu8, nble_t, nblt_t, Bool.not_true, Bool.not_false, Bool.not_not, ieq_t, ieq_f, ine_t, ine_f, true_and, and_true, andT_l]
              rfl
          · dsimp only; unfold tcN; split <;> omega
          · dsimp only; unfold tcN; split <;> omega
    · have hd : tls (l.drop k) = [] := by rw [List.drop_of_length_le (by omega)]; rfl
      refine .inr ⟨.exit 0, tcX r left, ?_, nofun, leaf_t (by rw [hd]; rfl) (by rw [hd]; exact .leaf)⟩
      simp (disch := omega) only [dec_t, dec_f, inB_t, inC_t, andT_t, cond_true, cond_false, Bool.and_true, Bool.true_and, w64, wu32, wu8, nble_t, nblt_t, Bool.not_true, Bool.not_false, Bool.not_not, ieq_t, ieq_f, ine_t, ine_f, true_and, and_true, andT_l]
      rfl
theorem af_tlvCan_ok : AllOk Tryz.prog 137 af_tlvCan := .sums Tryz.func137 (by kernel_rfl) (by kernel_rfl) (by kernel_rfl) (by kernel_rfl) (sums_one (c := tcC) (ts := [7, 8, 9, 3, 2]) (by kernel_rfl) (by kernel_rfl) tc_loop)
theorem tlvCan_t (l : List V) : callV Etv0 af_tlvCan [.rows (.agg [.int .i64, .bytes]) l] =
    bif
          decide
            ((↑l.length : Int) = (↑l.length : Int) ∧
              (0 : Int) ≤ (0 : Int) ∧
                (0 : Int) ≤ (↑l.length : Int) ∧
                  (↑l.length : Int) ≤ (4611686018427387904 : Int) ∧
                    (-257 : Int) ≤ (256 : Int) ∧ (256 : Int) ≤ (256 : Int)) then
        bif decide (tcE (tls (List.drop (0 : Nat) l)) = (0 : Int)) then
          bif decide (tcL (256 : Int) (tls (List.drop (0 : Nat) l)) < (0 : Int)) then some (V.int IntKind.i64 (8 : Int))
          else some (V.int IntKind.i64 (0 : Int))
        else some (V.int IntKind.i64 (tcE (tls (List.drop (0 : Nat) l))))
      else none := by kernel_rfl

theorem tlvCan_v (l : List V) (h : l.length ≤ 4611686018427387904) : callV Etv0 af_tlvCan [.rows (.agg [.int .i64, .bytes]) l] = some (.int .i64 (can 256 (tls l))) := by
  rw [tlvCan_t, can_tc, List.drop_zero]
  by_cases h1 : tcE (tls l) = 0
  · by_cases h2 : tcL 256 (tls l) < 0
    · rw [if_pos h1, if_pos h2]
      simp (disch := omega) only [dec_t, dec_f, inB_t, inC_t, andT_t, cond_true, cond_false, Bool.and_true, Bool.true_and, w64, wu32, wu8, nble_t, nblt_t, Bool.not_true, Bool.not_false, Bool.not_not, ieq_t, ieq_f, ine_t, ine_f, true_and, and_true, andT_l]
    · rw [if_pos h1, if_neg h2]
      simp (disch := omega) only [dec_t, dec_f, inB_t, inC_t, andT_t, cond_true, cond_false, Bool.and_true, Bool.true_and, w64, wu32, wu8, nble_t, nblt_t, Bool.not_true, Bool.not_false, Bool.not_not, ieq_t, ieq_f, ine_t, ine_f, true_and, and_true, andT_l]
  · rw [if_neg h1]
    simp (disch := omega) only [dec_t, dec_f, inB_t, inC_t, andT_t, cond_true, cond_false, Bool.and_true, Bool.true_and, w64, wu32, wu8, nble_t, nblt_t, Bool.not_true, Bool.not_false, Bool.not_not, ieq_t, ieq_f, ine_t, ine_f, true_and, and_true, andT_l]
def cTlvCan : List V → Option (V × Bool)
  | [.rows (.agg [.int .i64, .bytes]) l] => some (.int .i64 (can 256 (tls l)), decide (l.length ≤ 4611686018427387904))
  | _ => none
theorem tlvCan_con : ∀ vs v, cTlvCan vs = some (v, true) → SpecV Tryz.prog 137 vs v := by
  intro vs v h; unfold cTlvCan at h; split at h
  · rename_i l
    injection h with h; injection h with h hb; subst h
    exact callV_ok Etv0_ok af_tlvCan_ok (tlvCan_v l (of_decide_eq_true hb))
  · cases h
end Go.Proofs.YtbojofchpnfnlaaGreat

namespace Go.Proofs.YtbojofchpnfnlaaGreat
open Go Go.Am Go.RowKit Go.Mix Go.Bas
set_option maxRecDepth 100000
def rcL : Int → List (Int × List UInt8) → Int
  | sum, [] => sum
  | sum, p :: r => if tlB p then sum else if 255 < p.2.length then sum else rcL (min (sum + 2 + p.2.length) 257) r
theorem rc_tc : ∀ (L : List (Int × List UInt8)) (left sum : Int), (left < 0 ∧ sum = 257) ∨ (left = 256 - sum ∧ 0 ≤ sum ∧ sum ≤ 256) → (tcL left L < 0 ↔ 256 < rcL sum L)
  | [], left, sum, h => by rw [tcL, rcL]; omega
  | p :: r, left, sum, h => by
    rw [tcL, rcL]
    by_cases h1 : tlB p
    · rw [if_pos h1, if_pos h1]; omega
    · rw [if_neg h1, if_neg h1]
      by_cases h2 : 255 < p.2.length
      · rw [if_pos h2, if_pos h2]; omega
      · rw [if_neg h2, if_neg h2]
        exact rc_tc r _ _ (by unfold tcN; split <;> omega)
def rcX (e sum : Int) : S := ⟨[(2, .int .i64 e), (3, .int .i64 sum)], [], 0, true, 46⟩
def rcT (l : List V) (sum r : Int) : Tr := .br (decide (tcE (tls l) = 0)) (.leaf (.exit 0) (rcX r (rcL sum (tls l)))) (.leaf .ret (rcX (tcE (tls l)) (rcL sum (tls l))))
def rcG : S → Option (Bool × Tr) := gOf 46 0 fun sl _ => match sl 0, sl 4, sl 3, sl 2 with
  | some (.rows (.agg [.int .i64, .bytes]) l), some (.int .i64 i), some (.int .i64 sum), some (.int .i64 r) => some (decide (0 ≤ i ∧ i ≤ l.length ∧ l.length ≤ 4611686018427387904 ∧ 0 ≤ sum ∧ sum ≤ 257), rcT (l.drop i.toNat) sum r)
  | _, _, _, _ => none
noncomputable def af_rTlvCan : AF := afOf Tryz.prog Tryz.f120 [.sum [0, 4, 3, 2] [] rcG]
noncomputable def rcC : AC := (af_rTlvCan.ac.sums.headD (.skip, [], [], fun _ => none)).1
def rcSt (l : List V) (i sum r : Int) : S := ⟨[(0, .rows (.agg [.int .i64, .bytes]) l), (4, .int .i64 i), (3, .int .i64 sum), (2, .int .i64 r)], [], 0, true, 46⟩
theorem rTlvCan_b (l : List V) (i sum r : Int) : aev Etv0 (inlN Etv0 6) rcC (bodyK [0, 4, 3, 2] [2, 3] []) (rcSt l i sum r) =
    bif decide (i < (↑l.length : Int)) then
        bif andT true (inB i l.length) then
          bif decide (toI ((toG (l.getD i.toNat V.undef)).headD V.undef) < (1 : Int)) then
            some
              (Ex.ret,
                { sl := [((2 : Nat), V.int IntKind.i64 (2 : Int)), ((3 : Nat), V.int IntKind.i64 sum)], hp := [],
                  nx := (0 : Nat), ob := true, n := (46 : Nat) })
          else
            bif decide (toI ((toG (l.getD i.toNat V.undef)).headD V.undef) > (255 : Int)) then
              some
                (Ex.ret,
                  { sl := [((2 : Nat), V.int IntKind.i64 (2 : Int)), ((3 : Nat), V.int IntKind.i64 sum)], hp := [],
                    nx := (0 : Nat), ob := true, n := (46 : Nat) })
            else
              bif toI ((toG (l.getD i.toNat V.undef)).headD V.undef) == (4 : Int) then
                some
                  (Ex.ret,
                    { sl := [((2 : Nat), V.int IntKind.i64 (2 : Int)), ((3 : Nat), V.int IntKind.i64 sum)], hp := [],
                      nx := (0 : Nat), ob := true, n := (46 : Nat) })
              else
                bif andT true (inB i l.length) then
                  bif decide ((↑(toL ((toG (l.getD i.toNat V.undef)).tail.headD V.undef)).length : Int) > (255 : Int)) then
                    some
                      (Ex.ret,
                        { sl := [((2 : Nat), V.int IntKind.i64 (4 : Int)), ((3 : Nat), V.int IntKind.i64 sum)], hp := [],
                          nx := (0 : Nat), ob := true, n := (46 : Nat) })
                  else
                    bif andT true (inB i l.length) then
                      some
                        (Ex.normal,
                          {
                            sl :=
                              [((0 : Nat), V.rows (Sh.agg [Sh.int IntKind.i64, Sh.bytes]) l),
                                ((4 : Nat), V.int IntKind.i64 (IntKind.i64.wrap (i + (1 : Int)))),
                                ((3 : Nat),
                                  V.int IntKind.i64
                                    (if
                                        (257 : Int) <
                                          IntKind.i64.wrap
                                            (IntKind.i64.wrap (sum + (2 : Int)) +
                                              (↑(toL ((toG (l.getD i.toNat V.undef)).tail.headD V.undef)).length :
                                                Int)) then
                                      (257 : Int)
                                    else
                                      IntKind.i64.wrap
                                        (IntKind.i64.wrap (sum + (2 : Int)) +
                                          (↑(toL ((toG (l.getD i.toNat V.undef)).tail.headD V.undef)).length : Int)))),
                                ((2 : Nat), V.int IntKind.i64 r)],
                            hp := [], nx := (0 : Nat), ob := true, n := (46 : Nat) })
                    else none
                else none
        else none
      else
        some
          (Ex.exit (0 : Nat),
            { sl := [((2 : Nat), V.int IntKind.i64 r), ((3 : Nat), V.int IntKind.i64 sum)], hp := [], nx := (0 : Nat),
              ob := true, n := (46 : Nat) }) := by kernel_rfl

structure RcS where
  (l : List V)
  (i sum r : Int)
theorem rc_loop : LoopOk Tryz.prog rcC.erase [] rcG := by
  refine loop_ok Etv0_ok (d := 6) (AC.flat_ok (by kernel_rfl)) [0, 4, 3, 2] [2, 3] [] rcG (X := RcS) (fun x => rcSt x.l x.i x.sum x.r) (fun x => rcT (x.l.drop x.i.toNat) x.sum x.r)
    (fun x => 0 ≤ x.i ∧ x.i ≤ x.l.length ∧ x.l.length ≤ 4611686018427387904 ∧ 0 ≤ x.sum ∧ x.sum ≤ 257) (fun x => (x.l.length - x.i).toNat) ?_ ?_
  · intro s t h
    obtain ⟨h1, h2, h3, h⟩ := gOf_spec h
    split at h
    · rename_i l i sum r q1 q2 q3 q4
      injection h with h; injection h with hc ht
      exact ⟨⟨l, i, sum, r⟩, .one h1 h2 (by simp [q1, q2, q3, q4]) (by simp), of_decide_eq_true hc, ht.symm⟩
    · cases h
  · rintro ⟨l, i, sum, r⟩ ⟨h0, h1, hM, hl, hh⟩
    simp only at h0 h1 hM hl hh ⊢
    rw [rTlvCan_b]
    obtain ⟨k, rfl⟩ := Int.eq_ofNat_of_zero_le h0
    simp only [Int.toNat_natCast]
    by_cases hlt : k < l.length
    · have hd := tls_next hlt
      change _ = (toI ((toG (l.getD k .undef)).headD .undef), toL ((toG (l.getD k .undef)).tail.headD .undef)) :: _ at hd
      obtain ⟨kd, hkd⟩ : ∃ kd, toI ((toG (l.getD k .undef)).headD .undef) = kd := ⟨_, rfl⟩
      obtain ⟨d, hdd⟩ : ∃ d, toL ((toG (l.getD k .undef)).tail.headD .undef) = d := ⟨_, rfl⟩
      simp only [hkd, hdd] at hd ⊢
      by_cases hB : tlB (kd, d)
      · refine .inr ⟨.ret, rcX 2 sum, ?_, nofun, leaf_f (by rw [hd, tcE, if_pos hB]; rfl) (by rw [hd, tcE, rcL, if_pos hB, if_pos hB]; exact .leaf)⟩
        change kd ≤ 0 ∨ 255 < kd ∨ kd = 4 at hB
        by_cases a1 : kd < 1
        · simp (disch := omega) only [dec_t, dec_f, inB_t, inC_t, andT_t, cond_true, cond_false, Bool.and_true, Bool.true_and, w64, wu32, wu8, nble_t, nblt_t, Bool.not_true, Bool.not_false, Bool.not_not, ieq_t, ieq_f, ine_t, ine_f, true_and, and_true, andT_l]
          rfl
        · by_cases a2 : kd > 255
          · simp (disch := omega) only [dec_t, dec_f, inB_t, inC_t, andT_t, cond_true, cond_false, Bool.and_true, Bool.true_and, w64, wu32, wu8, nble_t, nblt_t, Bool.not_true, Bool.not_false, Bool.not_not, ieq_t, ieq_f, ine_t, ine_f, true_and, and_true, andT_l]
            rfl
          · have a3 : kd = 4 := by omega
            simp (disch := omega) only [dec_t, dec_f, inB_t, inC_t, andT_t, cond_true, cond_false, Bool.and_true, Bool.true_and, w64, wu32, wu8, nble_t, nblt_t, Bool.not_true, Bool.not_false, Bool.not_not, ieq_t, ieq_f, ine_t, ine_f, true_and, and_true, andT_l]
            rfl
      · have hB' : ¬ (kd ≤ 0 ∨ 255 < kd ∨ kd = 4) := hB
        by_cases hL : 255 < d.length
        · refine .inr ⟨.ret, rcX 4 sum, ?_, nofun, leaf_f (by rw [hd, tcE, if_neg hB, if_pos hL]; rfl) (by rw [hd, tcE, rcL, if_neg hB, if_neg hB, if_pos hL, if_pos hL]; exact .leaf)⟩
          simp (disch := omega) only [dec_t, dec_f, inB_t, inC_t, andT_t, cond_true, cond_false, Bool.and_true, Bool.true_and, w64, wu32, wu8, nble_t, nblt_t, Bool.not_true, Bool.not_false, Bool.not_not, ieq_t, ieq_f, ine_t, ine_f, true_and, and_true, andT_l]
          rfl
        · have hT : ∀ r, rcT (l.drop k) sum r = rcT (l.drop (k + 1)) (min (sum + 2 + d.length) 257) r := by
            intro r
            unfold rcT
            rw [hd, tcE, rcL, if_neg hB, if_neg hB, if_neg hL, if_neg hL]
          refine .inl ⟨⟨l, k + 1, min (sum + 2 + d.length) 257, r⟩, ?_, ⟨by dsimp only; omega, by dsimp only; omega, hM, by dsimp only; omega, by dsimp only; omega⟩, by dsimp only; omega, leaf_eq (by show rcT (l.drop (k + 1)) (min (sum + 2 + d.length) 257) r = rcT (l.drop k) sum r; exact (hT r).symm)⟩
          by_cases hz : 257 < sum + 2 + d.length
          · rw [Int.min_eq_right (by omega)]
            simp (disch := omega) only [dec_t, dec_f, inB_t, inC_t, andT_t, cond_true, cond_false, Bool.and_true, Bool.true_and, w64, wu32, wu8, nble_t, nblt_t, Bool.not_true, Bool.not_false, Bool.not_not, ieq_t, ieq_f, ine_t, ine_f, true_and, and_true, andT_l]
            rw [if_pos hz]
            rfl
          · rw [Int.min_eq_left (by omega)]
            simp (disch := omega) only [dec_t, dec_f, inB_t, inC_t, andT_t, cond_true, cond_false, Bool.and_true, Bool.true_and, w64, wu32, wu8, nble_t, nblt_t, Bool.not_true, Bool.not_false, Bool.not_not, ieq_t, ieq_f, ine_t, ine_f, true_and, and_true, andT_l]
            rw [if_neg hz]
            rfl
    · have hd : tls (l.drop k) = [] := by rw [List.drop_of_length_le (by omega)]; rfl
      refine .inr ⟨.exit 0, rcX r sum, ?_, nofun, leaf_t (by rw [hd]; rfl) (by rw [hd]; exact .leaf)⟩
      simp (disch := omega) only [dec_t, dec_f, inB_t, inC_t, andT_t, cond_true, cond_false, Bool.and_true, Bool.true_and, w64, wu32, wu8, nble_t, nblt_t, Bool.not_true, Bool.not_false, Bool.not_not, ieq_t, ieq_f, ine_t, ine_f, true_and, and_true, andT_l]
      rfl
theorem af_rTlvCan_ok : AllOk Tryz.prog 120 af_rTlvCan := .sums Tryz.func120 (by kernel_rfl) (by kernel_rfl) (by kernel_rfl) (by kernel_rfl) (sums_one (c := rcC) (ts := [0, 4, 3, 2]) (by kernel_rfl) (by kernel_rfl) rc_loop)
theorem rTlvCan_t (l : List V) : callV Etv0 af_rTlvCan [.rows (.agg [.int .i64, .bytes]) l] =
    bif
          decide
            ((0 : Int) ≤ (0 : Int) ∧
              (0 : Int) ≤ (↑l.length : Int) ∧
                l.length ≤ (4611686018427387904 : Nat) ∧ (0 : Int) ≤ (0 : Int) ∧ (0 : Int) ≤ (257 : Int)) then
        bif decide (tcE (tls (List.drop (0 : Nat) l)) = (0 : Int)) then
          bif decide (rcL (0 : Int) (tls (List.drop (0 : Nat) l)) > (256 : Int)) then some (V.int IntKind.i64 (8 : Int))
          else some (V.int IntKind.i64 (0 : Int))
        else some (V.int IntKind.i64 (tcE (tls (List.drop (0 : Nat) l))))
      else none := by kernel_rfl

theorem rTlvCan_v (l : List V) (h : l.length ≤ 4611686018427387904) : callV Etv0 af_rTlvCan [.rows (.agg [.int .i64, .bytes]) l] = some (.int .i64 (can 256 (tls l))) := by
  rw [rTlvCan_t, can_tc, List.drop_zero]
  have hr := rc_tc (tls l) 256 0 (.inr ⟨rfl, by omega, by omega⟩)
  by_cases h1 : tcE (tls l) = 0
  · by_cases h2 : tcL 256 (tls l) < 0
    · have h3 := hr.1 h2
      rw [if_pos h1, if_pos h2]
      simp (disch := omega) only [dec_t, dec_f, inB_t, inC_t, andT_t, cond_true, cond_false, Bool.and_true, Bool.true_and, w64, wu32, wu8, nble_t, nblt_t, Bool.not_true, Bool.not_false, Bool.not_not, ieq_t, ieq_f, ine_t, ine_f, true_and, and_true, andT_l]
    · have h3 := mt hr.2 h2
      rw [if_pos h1, if_neg h2]
      simp (disch := omega) only [dec_t, dec_f, inB_t, inC_t, andT_t, cond_true, cond_false, Bool.and_true, Bool.true_and, w64, wu32, wu8, nble_t, nblt_t, Bool.not_true, Bool.not_false, Bool.not_not, ieq_t, ieq_f, ine_t, ine_f, true_and, and_true, andT_l]
  · rw [if_neg h1]
    simp (disch := omega) only [dec_t, dec_f, inB_t, inC_t, andT_t, cond_true, cond_false, Bool.and_true, Bool.true_and, w64, wu32, wu8, nble_t, nblt_t, Bool.not_true, Bool.not_false, Bool.not_not, ieq_t, ieq_f, ine_t, ine_f, true_and, and_true, andT_l]
theorem rTlvCan_con : ∀ vs v, cTlvCan vs = some (v, true) → SpecV Tryz.prog 120 vs v := by
  intro vs v h; unfold cTlvCan at h; split at h
  · rename_i l
    injection h with h; injection h with h hb; subst h
    exact callV_ok Etv0_ok af_rTlvCan_ok (rTlvCan_v l (of_decide_eq_true hb))
  · cases h
/-! ### Pad -/
noncomputable def af_tlvPad : AF := afOf Tryz.prog Tryz.f138 []
theorem af_tlvPad_ok : AllOk Tryz.prog 138 af_tlvPad := .flat Tryz.func138 (by kernel_rfl) (by kernel_rfl) (by kernel_rfl) (by kernel_rfl) (by kernel_rfl)
theorem tlvPad_t (n : Int) : callV Etv0 af_tlvPad [.int .i64 n] =
    bif decide ((if (257 : Int) < n then (257 : Int) else n) < (1 : Int)) then some (V.ownv (5 : Nat) (V.bytes []))
      else
        bif (if (257 : Int) < n then (257 : Int) else n) == (1 : Int) then
          some (V.ownv (5 : Nat) (V.bytes (u8 (0 : Int) :: List.replicate (nat_lit 0) (0 : UInt8))))
        else
          bif
              andT true
                (((if (257 : Int) < n then (257 : Int) else n) == if (257 : Int) < n then (257 : Int) else n) &&
                    Am.inC (if (257 : Int) < n then (257 : Int) else n) (9223372036854775807 : Nat) &&
                  ((1 : Nat) * (if (257 : Int) < n then (257 : Int) else n).toNat).ble (281474976710656 : Nat)) then
            bif
                andT (andT true (inB (0 : Int) (if (257 : Int) < n then (257 : Int) else n).toNat))
                  (inB (1 : Int) (if (257 : Int) < n then (257 : Int) else n).toNat) then
              some
                (V.ownv (5 : Nat)
                  (V.bytes
                    (((List.replicate (if (257 : Int) < n then (257 : Int) else n).toNat (0 : UInt8)).set (0 : Nat)
                          (u8 (4 : Int))).set
                      (1 : Nat)
                      (u8
                        (IntKind.u8.wrap (IntKind.i64.wrap ((if (257 : Int) < n then (257 : Int) else n) - (2 : Int))))))))
            else none
          else none := by kernel_rfl

theorem u8_wrap (x : Int) : u8 (IntKind.u8.wrap x) = b8 x := rfl
theorem u8_b8 {x : Int} (h0 : 0 ≤ x) (h1 : x ≤ 255) : u8 x = b8 x := by rw [← u8_wrap, wu8 h0 h1]
theorem tlvPad_v (n : Int) (h1 : -4611686018427387904 ≤ n) (h2 : n ≤ 4611686018427387904) : callV Etv0 af_tlvPad [.int .i64 n] = some (.ownv 5 (.bytes (pad n))) := by
  rw [tlvPad_t]
  obtain ⟨m, hm⟩ : ∃ m, (if 257 < n then 257 else n) = m := ⟨_, rfl⟩
  simp only [hm]
  have hm2 : m ≤ 257 ∧ (n ≤ 257 → m = n) ∧ (257 < n → m = 257) := by subst hm; split <;> omega
  by_cases c1 : m < 1
  · rw [pad_small (by omega)]
    simp (disch := omega) only [dec_t, dec_f, inB_t, inC_t, andT_t, cond_true, cond_false, Bool.and_true, Bool.true_and, w64, wu32, wu8, nble_t, nblt_t, Bool.not_true, Bool.not_false, Bool.not_not, ieq_t, ieq_f, ine_t, ine_f, true_and, and_true, andT_l]
  · by_cases c2 : m = 1
    · have e : n = 1 := by omega
      subst e
      simp (disch := omega) only [dec_t, dec_f, inB_t, inC_t, andT_t, cond_true, cond_false, Bool.and_true, Bool.true_and, w64, wu32, wu8, nble_t, nblt_t, Bool.not_true, Bool.not_false, Bool.not_not, ieq_t, ieq_f, ine_t, ine_f, true_and, and_true, andT_l]
      rfl
    · obtain ⟨k, rfl⟩ := Int.eq_ofNat_of_zero_le (show 0 ≤ m by omega)
      have e : pad n = padN k := by
        rcases Nat.lt_or_ge k 257 with h | h
        · rw [show n = (k : Int) by omega, pad_mid (by omega) (by omega)]
        · rw [show k = 257 by omega, pad_big (by omega)]
      rw [e, ← padN_set (by omega)]
      simp only [Int.toNat_natCast]
      simp (disch := omega) only [dec_t, dec_f, inB_t, inC_t, andT_t, cond_true, cond_false, Bool.and_true, Bool.true_and, w64, wu32, wu8, nble_t, nblt_t, Bool.not_true, Bool.not_false, Bool.not_not, ieq_t, ieq_f, ine_t, ine_f, true_and, and_true, andT_l]
      rw [show u8 4 = 4 from rfl, u8_b8 (x := (k : Int) - 2) (by omega) (by omega)]
def cTlvPad : List V → Option (V × Bool)
  | [.int .i64 n] => some (.ownv 5 (.bytes (pad n)), decide (-4611686018427387904 ≤ n ∧ n ≤ 4611686018427387904))
  | _ => none
theorem tlvPad_con : ∀ vs v, cTlvPad vs = some (v, true) → SpecV Tryz.prog 138 vs v := by
  intro vs v h; unfold cTlvPad at h; split at h
  · rename_i n
    injection h with h; injection h with h hb; subst h
    exact callV_ok Etv0_ok af_tlvPad_ok (tlvPad_v n (of_decide_eq_true hb).1 (of_decide_eq_true hb).2)
  · cases h
end Go.Proofs.YtbojofchpnfnlaaGreat

namespace Go.Proofs.YtbojofchpnfnlaaGreat
open Go Go.Am Go.RowKit Go.Mix Go.Bas
set_option maxRecDepth 100000
/-- an own row of bytes in slot t -/
def rowS (t : Nat) (b : List UInt8) (sl : List (Nat × V)) (n : Nat) : S := ⟨sl ++ [(t, .own 0 b.length (.int .u8))], [(0, some (.row 5 (.int .u8) (.bytes b)))], 1, true, n⟩
def rpX (b : List UInt8) : S := rowS 3 b [] 23
def rpT (n : Int) (b : List UInt8) : Tr := .leaf (.exit 0) (rpX (b ++ List.replicate (n - b.length).toNat 0))
def rpG : S → Option (Bool × Tr) := gOf 23 1 fun sl hp => match sl 0, sl 3, hp 0 with
  | some (.int .i64 n), some (.own 0 m (.int .u8)), some (.row T (.int .u8) (.bytes b)) => some (decide (m = b.length ∧ T = 5 ∧ n ≤ 1000000 ∧ b.length ≤ 1000000), rpT n b)
  | _, _, _ => none
noncomputable def af_rTlvPad : AF := afOf Tryz.prog Tryz.f121 [.sum [0, 3] [] rpG]
noncomputable def rpC : AC := (af_rTlvPad.ac.sums.headD (.skip, [], [], fun _ => none)).1
def rpSt (n : Int) (b : List UInt8) : S := rowS 3 b [(0, .int .i64 n)] 23
theorem rTlvPad_b (n : Int) (b : List UInt8) : aev Etv0 (inlN Etv0 6) rpC (bodyK [0, 3] [3] []) (rpSt n b) =
    bif decide ((↑b.length : Int) < n) then
        bif
            andT true
              (((b ++ u8 (0 : Int) :: List.replicate (nat_lit 0) (0 : UInt8)).length * (1 : Nat)).ble
                (140737488355328 : Nat)) then
          some
            (Ex.normal,
              {
                sl :=
                  [((0 : Nat), V.int IntKind.i64 n),
                    ((3 : Nat),
                      V.own (0 : Nat) (b ++ u8 (0 : Int) :: List.replicate (nat_lit 0) (0 : UInt8)).length
                        (Sh.int IntKind.u8))],
                hp :=
                  [((0 : Nat),
                      some
                        (Blk.row (5 : Nat) (Sh.int IntKind.u8)
                          (V.bytes (b ++ u8 (0 : Int) :: List.replicate (nat_lit 0) (0 : UInt8)))))],
                nx := (1 : Nat), ob := true, n := (23 : Nat) })
        else none
      else
        some
          (Ex.exit (0 : Nat),
            { sl := [((3 : Nat), V.own (0 : Nat) b.length (Sh.int IntKind.u8))],
              hp := [((0 : Nat), some (Blk.row (5 : Nat) (Sh.int IntKind.u8) (V.bytes b)))], nx := (1 : Nat), ob := true,
              n := (23 : Nat) }) := by kernel_rfl

theorem rep_next {b : List UInt8} {n : Int} (h : (b.length : Int) < n) : (b ++ [0]) ++ List.replicate (n - (b ++ [0]).length).toNat 0 = b ++ List.replicate (n - b.length).toNat 0 := by
  obtain ⟨k, rfl⟩ : ∃ k : Nat, n = b.length + 1 + k := ⟨(n - b.length - 1).toNat, by omega⟩
  rw [show (((b.length : Int) + 1 + k) - b.length).toNat = k + 1 by omega, List.replicate_succ]
  simp only [List.length_append, List.length_cons, List.length_nil]
  rw [show (((b.length : Int) + 1 + k) - ((b.length + (0 + 1) : Nat) : Int)).toNat = k by omega, List.append_assoc]
  rfl
structure RpS where
  (n : Int)
  (b : List UInt8)
theorem rp_loop : LoopOk Tryz.prog rpC.erase [] rpG := by
  refine loop_ok Etv0_ok (d := 6) (AC.flat_ok (by kernel_rfl)) [0, 3] [3] [] rpG (X := RpS) (fun x => rpSt x.n x.b) (fun x => rpT x.n x.b)
    (fun x => x.n ≤ 1000000 ∧ x.b.length ≤ 1000000) (fun x => (x.n - x.b.length).toNat) ?_ ?_
  · intro s t h
    obtain ⟨h1, h2, h3, h⟩ := gOf_spec h
    split at h
    · rename_i n m T b q1 q2 q3
      injection h with h; injection h with hc ht
      obtain ⟨c1, c2, c3, c4⟩ := of_decide_eq_true hc
      subst c1; subst c2
      exact ⟨⟨n, b⟩, .one h1 h2 (by simp [q1, q2]) (by simp [q3]), ⟨c3, c4⟩, ht.symm⟩
    · cases h
  · rintro ⟨n, b⟩ ⟨hM, hb⟩
    simp only at hM hb ⊢
    rw [rTlvPad_b]
    by_cases hlt : (b.length : Int) < n
    · have hlen : (b ++ u8 (0 : Int) :: List.replicate (nat_lit 0) (0 : UInt8)).length = b.length + 1 := by simp
      have hle : (b ++ [(0 : UInt8)]).length = b.length + 1 := by simp
      refine .inl ⟨⟨n, b ++ [0]⟩, ?_, ⟨hM, by dsimp only; omega⟩, by dsimp only; omega, leaf_eq (by show rpT n (b ++ [0]) = rpT n b; unfold rpT; rw [rep_next hlt])⟩
      show (bif decide ((b.length : Int) < n) then bif andT true (((b ++ [0]).length * 1).ble 140737488355328) then some (Ex.normal, rpSt n (b ++ [0])) else none else some (Ex.exit 0, rpX b)) = _
      simp (disch := omega) only [dec_t, dec_f, inB_t, inC_t, andT_t, cond_true, cond_false, Bool.and_true, Bool.true_and, w64, wu32, wu8, nble_t, nblt_t, Bool.not_true, Bool.not_false, Bool.not_not, ieq_t, ieq_f, ine_t, ine_f, true_and, and_true, andT_l]
    · refine .inr ⟨.exit 0, rpX b, ?_, nofun, ?_⟩
      · simp (disch := omega) only [dec_t, dec_f, inB_t, inC_t, andT_t, cond_true, cond_false, Bool.and_true, Bool.true_and, w64, wu32, wu8, nble_t, nblt_t, Bool.not_true, Bool.not_false, Bool.not_not, ieq_t, ieq_f, ine_t, ine_f, true_and, and_true, andT_l]
        rfl
      · have e : rpT n b = .leaf (.exit 0) (rpX b) := by
          unfold rpT
          rw [show (n - b.length).toNat = 0 by omega, List.replicate_zero, List.append_nil]
        show Leaf (rpT n b) _ _
        rw [e]
        exact .leaf
theorem af_rTlvPad_ok : AllOk Tryz.prog 121 af_rTlvPad := .sums Tryz.func121 (by kernel_rfl) (by kernel_rfl) (by kernel_rfl) (by kernel_rfl) (sums_one (c := rpC) (ts := [0, 3]) (by kernel_rfl) (by kernel_rfl) rp_loop)
theorem rTlvPad_t (n : Int) : callV Etv0 af_rTlvPad [.int .i64 n] =
    bif decide (n < (1 : Int)) then some (V.ownv (5 : Nat) (V.bytes []))
      else
        bif n == (1 : Int) then some (V.ownv (5 : Nat) (V.bytes (u8 (0 : Int) :: List.replicate (nat_lit 0) (0 : UInt8))))
        else
          bif decide (n > (257 : Int)) then
            some
              (V.ownv (5 : Nat)
                (V.bytes
                  (u8 (4 : Int) :: u8 (255 : Int) :: List.replicate (nat_lit 0) (0 : UInt8) ++
                    List.replicate (255 : Nat) (0 : UInt8))))
          else
            bif
                decide
                  ((2 : Nat) =
                      (u8 (4 : Int) ::
                          u8 (IntKind.u8.wrap (IntKind.i64.wrap (n - (2 : Int)))) ::
                            List.replicate (nat_lit 0) (0 : UInt8)).length ∧
                    (5 : Nat) = (5 : Nat) ∧
                      n ≤ (1000000 : Int) ∧
                        (u8 (4 : Int) ::
                              u8 (IntKind.u8.wrap (IntKind.i64.wrap (n - (2 : Int)))) ::
                                List.replicate (nat_lit 0) (0 : UInt8)).length ≤
                          (1000000 : Nat)) then
              some
                (V.ownv (5 : Nat)
                  (V.bytes
                    (u8 (4 : Int) ::
                        u8 (IntKind.u8.wrap (IntKind.i64.wrap (n - (2 : Int)))) :: List.replicate (nat_lit 0) (0 : UInt8) ++
                      List.replicate
                        (n -
                            (↑(u8 (4 : Int) ::
                                    u8 (IntKind.u8.wrap (IntKind.i64.wrap (n - (2 : Int)))) ::
                                      List.replicate (nat_lit 0) (0 : UInt8)).length :
                              Int)).toNat
                        (0 : UInt8))))
            else none := by kernel_rfl

theorem rTlvPad_v (n : Int) (h1 : -4611686018427387904 ≤ n) (h2 : n ≤ 4611686018427387904) : callV Etv0 af_rTlvPad [.int .i64 n] = some (.ownv 5 (.bytes (pad n))) := by
  rw [rTlvPad_t]
  by_cases c1 : n < 1
  · rw [pad_small (by omega)]
    simp (disch := omega) only [dec_t, dec_f, inB_t, inC_t, andT_t, cond_true, cond_false, Bool.and_true, Bool.true_and, w64, wu32, wu8, nble_t, nblt_t, Bool.not_true, Bool.not_false, Bool.not_not, ieq_t, ieq_f, ine_t, ine_f, true_and, and_true, andT_l]
  · by_cases c2 : n = 1
    · subst c2
      simp (disch := omega) only [dec_t, dec_f, inB_t, inC_t, andT_t, cond_true, cond_false, Bool.and_true, Bool.true_and, w64, wu32, wu8, nble_t, nblt_t, Bool.not_true, Bool.not_false, Bool.not_not, ieq_t, ieq_f, ine_t, ine_f, true_and, and_true, andT_l]
      rfl
    · by_cases c3 : 257 < n
      · rw [pad_big (by omega)]
        simp (disch := omega) only [dec_t, dec_f, inB_t, inC_t, andT_t, cond_true, cond_false, Bool.and_true, Bool.true_and, w64, wu32, wu8, nble_t, nblt_t, Bool.not_true, Bool.not_false, Bool.not_not, ieq_t, ieq_f, ine_t, ine_f, true_and, and_true, andT_l]
        rfl
      · obtain ⟨k, rfl⟩ := Int.eq_ofNat_of_zero_le (show 0 ≤ n by omega)
        rw [pad_mid (by omega) (by omega)]
        simp only [List.length_cons, List.length_replicate]
        simp (disch := omega) only [dec_t, dec_f, inB_t, inC_t, andT_t, cond_true, cond_false, Bool.and_true, Bool.true_and, w64, wu32, wu8, nble_t, nblt_t, Bool.not_true, Bool.not_false, Bool.not_not, ieq_t, ieq_f, ine_t, ine_f, true_and, and_true, andT_l]
        show some (V.ownv 5 (V.bytes (4 :: u8 ((k : Int) - 2) :: List.replicate ((k : Int) - 2).toNat 0))) = _
        rw [u8_b8 (by omega) (by omega), show ((k : Int) - 2).toNat = k - 2 by omega]
        rfl
theorem rTlvPad_con : ∀ vs v, cTlvPad vs = some (v, true) → SpecV Tryz.prog 121 vs v := by
  intro vs v h; unfold cTlvPad at h; split at h
  · rename_i n
    injection h with h; injection h with h hb; subst h
    exact callV_ok Etv0_ok af_rTlvPad_ok (rTlvPad_v n (of_decide_eq_true hb).1 (of_decide_eq_true hb).2)
  · cases h
end Go.Proofs.YtbojofchpnfnlaaGreat

namespace Go.Proofs.YtbojofchpnfnlaaGreat
open Go Go.Am Go.RowKit Go.Mix Go.Bas
set_option maxRecDepth 100000
/-- a row that grows: nothing yet, or a row of the call's own -/
def growS (t : Nat) : Option (List UInt8) → List (Nat × V) → Nat → S
  | none, sl, n => ⟨sl ++ [(t, .nils)], [], 0, true, n⟩
  | some b, sl, n => rowS t b sl n
def noP (L : List (Int × List UInt8)) : Bool := L.isEmpty
def growT (t : Nat) (n : Nat) (ob : Option (List UInt8)) (L : List (Int × List UInt8)) : Tr := .br (ob.isNone && noP L) (.leaf (.exit 0) (growS t none [] n)) (.leaf (.exit 0) (growS t (some (ob.getD [] ++ enc L)) [] n))
theorem growT_end (t n : Nat) (ob : Option (List UInt8)) : Leaf (growT t n ob []) (.exit 0) (growS t ob [] n) := by
  cases ob with
  | none => exact leaf_t rfl .leaf
  | some b => exact leaf_f rfl (by rw [enc, List.append_nil]; exact .leaf)
theorem growT_next (t n : Nat) (ob : Option (List UInt8)) (p : Int × List UInt8) (r : List (Int × List UInt8)) : ∀ e s, Leaf (growT t n (some ((ob.getD [] ++ [b8 p.1, b8 p.2.length]) ++ p.2)) r) e s → Leaf (growT t n ob (p :: r)) e s := by
  intro e s h
  have : growT t n (some ((ob.getD [] ++ [b8 p.1, b8 p.2.length]) ++ p.2)) r = .br false (.leaf (.exit 0) (growS t none [] n)) (.leaf (.exit 0) (growS t (some (ob.getD [] ++ enc (p :: r))) [] n)) := by
    unfold growT
    rw [enc, show (some ((ob.getD [] ++ [b8 p.1, b8 p.2.length]) ++ p.2)).getD [] ++ enc r = ob.getD [] ++ b8 p.1 :: b8 p.2.length :: (p.2 ++ enc r) by simp]
    rfl
  rw [this] at h
  refine leaf_f ?_ ?_
  · simp [noP]
  · cases h with
    | f h => exact h
def tpSt (l : List V) (n i : Int) (ob : Option (List UInt8)) : S := growS 5 ob [(13, .rows (.agg [.int .i64, .bytes]) l), (14, .int .i64 n), (15, .int .i64 i)] 41
abbrev tpI (l : List V) (n i : Int) (ob : Option (List UInt8)) : Prop := n = l.length ∧ 0 ≤ i ∧ i ≤ n ∧ n ≤ 4611686018427387904 ∧ (ob.getD []).length + (enc (tls (l.drop i.toNat))).length ≤ 1000000
def tpG0 : S → Option (Bool × Tr) := gOf 41 0 fun sl _ => match sl 13, sl 14, sl 15, sl 5 with
  | some (.rows (.agg [.int .i64, .bytes]) l), some (.int .i64 n), some (.int .i64 i), some .nils => some (decide (tpI l n i none), growT 5 41 none (tls (l.drop i.toNat)))
  | _, _, _, _ => none
def tpG1 : S → Option (Bool × Tr) := gOf 41 1 fun sl hp => match sl 13, sl 14, sl 15, sl 5, hp 0 with
  | some (.rows (.agg [.int .i64, .bytes]) l), some (.int .i64 n), some (.int .i64 i), some (.own 0 m (.int .u8)), some (.row T (.int .u8) (.bytes b)) => some (decide (m = b.length ∧ T = 5 ∧ tpI l n i (some b)), growT 5 41 (some b) (tls (l.drop i.toNat)))
  | _, _, _, _, _ => none
def orG (f g : S → Option (Bool × Tr)) (s : S) : Option (Bool × Tr) := match f s with
  | some x => some x
  | none => g s
theorem orG_spec {f g : S → Option (Bool × Tr)} {s : S} {x : Bool × Tr} (h : orG f g s = some x) : f s = some x ∨ g s = some x := by
  unfold orG at h
  split at h
  · rename_i y hy; rw [hy]; exact .inl h
  · exact .inr h
noncomputable def af_tlvPut : AF := afOf Tryz.prog Tryz.f112 [.sum [13, 14, 15, 5] [] (orG tpG0 tpG1)]
noncomputable def tpC : AC := (af_tlvPut.ac.sums.headD (.skip, [], [], fun _ => none)).1
noncomputable def GEtvd : List (Nat × Con) := [(137, .val [.rows (.agg [.int .i64, .bytes])] cTlvCan), (120, .val [.rows (.agg [.int .i64, .bytes])] cTlvCan), (138, .val [.int .i64] cTlvPad), (121, .val [.int .i64] cTlvPad)]
theorem GEtvd_ok : GOk Tryz.prog GEtvd := .cons (enters_of Tryz.func137 (by kernel_rfl) rfl) tlvCan_con <| .cons (enters_of Tryz.func120 (by kernel_rfl) rfl) rTlvCan_con <| .cons (enters_of Tryz.func138 (by kernel_rfl) rfl) tlvPad_con <| .cons (enters_of Tryz.func121 (by kernel_rfl) rfl) rTlvPad_con <| .nil
noncomputable def IEtvd : List (Nat × AF) := []
theorem IEtvd_ok : IOk Tryz.prog IEtvd := .nil
noncomputable def CEtvd : List (Nat × (List Nat × (S → Option (Bool × Tr)))) := []
theorem CEtvd_ok : COk Tryz.prog CEtvd := .nil
noncomputable def XEtvd : List (Nat × (List Sh × (List V → PT))) := []
theorem XEtvd_ok : XOk Tryz.prog XEtvd := .nil
noncomputable def Etvd : Env := ⟨Tryz.prog, GEtvd, IEtvd, CEtvd, XEtvd⟩
theorem Etvd_ok : EnvOk Etvd := ⟨by kernel_rfl, GEtvd_ok, IEtvd_ok, CEtvd_ok, XEtvd_ok⟩
/-- a row with one more part -/
def growP (ob : Option (List UInt8)) (p : Int × List UInt8) : List UInt8 := (ob.getD [] ++ [b8 p.1, b8 p.2.length]) ++ p.2
theorem growP_len (ob : Option (List UInt8)) (p : Int × List UInt8) : (growP ob p).length = (ob.getD []).length + 2 + p.2.length := by simp only [growP, List.length_append, List.length_cons, List.length_nil]
theorem enc_cons (p : Int × List UInt8) (r : List (Int × List UInt8)) : (enc (p :: r)).length = 2 + p.2.length + (enc r).length := by simp only [enc, List.length_append, List.length_cons]; omega
theorem tlvPut_b (l : List V) (n i : Int) (ob : Option (List UInt8)) : aev Etvd (inlN Etvd 6) tpC (bodyK [13, 14, 15, 5] [5] []) (tpSt l n i ob) =
    bif decide (i < n) then bif andT true (inB i l.length) then
      bif andT (andT true (((ob.getD [] ++ [b8 (tlP (l.getD i.toNat .undef)).1, b8 (tlP (l.getD i.toNat .undef)).2.length]).length * 1).ble 140737488355328)) (((growP ob (tlP (l.getD i.toNat .undef))).length * 1).ble 140737488355328) && true then
        some (.normal, tpSt l n (IntKind.i64.wrap (i + 1)) (some (growP ob (tlP (l.getD i.toNat .undef))))) else none
      else none else some (.exit 0, growS 5 ob [] 41) := by
  cases ob <;> kernel_rfl
structure TpS where
  (l : List V)
  (n i : Int)
  (ob : Option (List UInt8))
theorem tp_loop : LoopOk Tryz.prog tpC.erase [] (orG tpG0 tpG1) := by
  refine loop_ok Etvd_ok (d := 6) (AC.flat_ok (by kernel_rfl)) [13, 14, 15, 5] [5] [] (orG tpG0 tpG1) (X := TpS) (fun x => tpSt x.l x.n x.i x.ob) (fun x => growT 5 41 x.ob (tls (x.l.drop x.i.toNat)))
    (fun x => tpI x.l x.n x.i x.ob) (fun x => (x.n - x.i).toNat) ?_ ?_
  · intro s t h
    rcases orG_spec h with h | h
    · obtain ⟨h1, h2, h3, h⟩ := gOf_spec h
      split at h
      · rename_i l n i q1 q2 q3 q4
        injection h with h; injection h with hc ht
        exact ⟨⟨l, n, i, none⟩, .one h1 h2 (by simp [q1, q2, q3, q4]) (by simp), of_decide_eq_true hc, ht.symm⟩
      · cases h
    · obtain ⟨h1, h2, h3, h⟩ := gOf_spec h
      split at h
      · rename_i l n i m T b q1 q2 q3 q4 q5
        injection h with h; injection h with hc ht
        obtain ⟨c1, c2, c3⟩ := of_decide_eq_true hc
        subst c1; subst c2
        exact ⟨⟨l, n, i, some b⟩, .one h1 h2 (by simp [q1, q2, q3, q4]) (by simp [q5]), c3, ht.symm⟩
      · cases h
  · rintro ⟨l, n, i, ob⟩ ⟨hn, h0, h1, hM, hb⟩
    simp only at hn h0 h1 hM hb ⊢
    subst hn
    rw [tlvPut_b]
    obtain ⟨k, rfl⟩ := Int.eq_ofNat_of_zero_le h0
    simp only [Int.toNat_natCast] at hb ⊢
    by_cases hlt : k < l.length
    · have hd := tls_next hlt
      obtain ⟨p, hp⟩ : ∃ p, tlP (l.getD k .undef) = p := ⟨_, rfl⟩
      simp only [hp] at hd ⊢
      rw [hd, enc_cons] at hb
      have hl := growP_len ob p
      have hl2 : (ob.getD [] ++ [b8 p.1, b8 p.2.length]).length = (ob.getD []).length + 2 := by simp
      refine .inl ⟨⟨l, l.length, k + 1, some (growP ob p)⟩, ?_, ⟨rfl, by dsimp only; omega, by dsimp only; omega, hM, ?_⟩, by dsimp only; omega, ?_⟩
      · simp (disch := omega) only [dec_t, dec_f, inB_t, inC_t, andT_t, cond_true, cond_false, Bool.and_true, Bool.true_and, w64, wu32, wu8, nble_t, nblt_t, Bool.not_true, Bool.not_false, Bool.not_not, ieq_t, ieq_f, ine_t, ine_f, true_and, and_true, andT_l]
      · show (growP ob p).length + (enc (tls (l.drop (k + 1)))).length ≤ 1000000
        omega
      · intro e s h
        show Leaf (growT 5 41 ob (tls (l.drop k))) e s
        rw [hd]
        exact growT_next _ _ _ _ _ e s h
    · have hd : tls (l.drop k) = [] := by rw [List.drop_of_length_le (by omega)]; rfl
      refine .inr ⟨.exit 0, growS 5 ob [] 41, ?_, nofun, by rw [hd]; exact growT_end _ _ _⟩
      simp (disch := omega) only [dec_t, dec_f, inB_t, inC_t, andT_t, cond_true, cond_false, Bool.and_true, Bool.true_and, w64, wu32, wu8, nble_t, nblt_t, Bool.not_true, Bool.not_false, Bool.not_not, ieq_t, ieq_f, ine_t, ine_f, true_and, and_true, andT_l]
theorem af_tlvPut_ok : AllOk Tryz.prog 112 af_tlvPut := .sums Tryz.func112 (by kernel_rfl) (by kernel_rfl) (by kernel_rfl) (by kernel_rfl) (sums_one (c := tpC) (ts := [13, 14, 15, 5]) (by kernel_rfl) (by kernel_rfl) tp_loop)
theorem tlvPut_t (l : List V) : callV Etvd af_tlvPut [.rows (.agg [.int .i64, .bytes]) l] =
    bif andT true (decide (l.length ≤ (4611686018427387904 : Nat))) then
        bif can (256 : Int) (tls l) != (0 : Int) then
          some (V.tup [V.ownv (5 : Nat) (V.bytes []), V.int IntKind.i64 (can (256 : Int) (tls l))])
        else
          bif
              decide
                ((↑l.length : Int) = (↑l.length : Int) ∧
                  (0 : Int) ≤ (0 : Int) ∧
                    (0 : Int) ≤ (↑l.length : Int) ∧
                      (↑l.length : Int) ≤ (4611686018427387904 : Int) ∧
                        (0 : Nat) + (enc (tls (List.drop (0 : Nat) l))).length ≤ (1000000 : Nat)) then
            bif noP (tls (List.drop (0 : Nat) l)) then
              some (V.tup [V.ownv (5 : Nat) (V.bytes (pad (0 : Int))), V.int IntKind.i64 (0 : Int)])
            else
              bif
                  andT
                    (andT true
                      (decide
                        ((-4611686018427387904 : Int) ≤
                            (IntKind.i64.wrap
                                  ((8 : Int) -
                                    (↑([] ++ enc (tls (List.drop (0 : Nat) l))).length : Int).tmod (8 : Int))).tmod
                              (8 : Int) ∧
                          (IntKind.i64.wrap
                                  ((8 : Int) -
                                    (↑([] ++ enc (tls (List.drop (0 : Nat) l))).length : Int).tmod (8 : Int))).tmod
                              (8 : Int) ≤
                            (4611686018427387904 : Int))))
                    ((([] ++ enc (tls (List.drop (0 : Nat) l)) ++
                              pad
                                ((IntKind.i64.wrap
                                      ((8 : Int) -
                                        (↑([] ++ enc (tls (List.drop (0 : Nat) l))).length : Int).tmod (8 : Int))).tmod
                                  (8 : Int))).length *
                          (1 : Nat)).ble
                      (140737488355328 : Nat)) then
                some
                  (V.tup
                    [V.ownv (5 : Nat)
                        (V.bytes
                          ([] ++ enc (tls (List.drop (0 : Nat) l)) ++
                            pad
                              ((IntKind.i64.wrap
                                    ((8 : Int) -
                                      (↑([] ++ enc (tls (List.drop (0 : Nat) l))).length : Int).tmod (8 : Int))).tmod
                                (8 : Int)))),
                      V.int IntKind.i64 (0 : Int)])
              else none
          else none
      else none := by kernel_rfl

theorem mod8 (n : Nat) : (IntKind.i64.wrap (8 - ((n : Int)).tmod 8)).tmod 8 = (8 - (n : Int) % 8) % 8 := by
  rw [tmd (a := (n : Int)) (by omega), w64 (by omega) (by omega), tmd (by omega)]
def putB (L : List (Int × List UInt8)) : List UInt8 := (put L).1
theorem putB_ok {L : List (Int × List UInt8)} (h : can 256 L = 0) : putB L = enc L ++ pad ((8 - (enc L).length % 8) % 8) := by unfold putB put; rw [if_pos h]
theorem putB_no {L : List (Int × List UInt8)} (h : ¬ can 256 L = 0) : putB L = [] := by unfold putB put; rw [if_neg h]
theorem tlvPut_v (l : List V) (h : l.length ≤ 4611686018427387904) : callV Etvd af_tlvPut [.rows (.agg [.int .i64, .bytes]) l] = some (.tup [.ownv 5 (.bytes (putB (tls l))), .int .i64 (can 256 (tls l))]) := by
  rw [tlvPut_t]
  simp only [List.drop_zero, List.nil_append]
  by_cases h0 : can 256 (tls l) = 0
  · have he := can_len (tls l) 256 h0
    have hp := pad_len ((8 - ((enc (tls l)).length : Int) % 8) % 8)
    rw [putB_ok h0, h0]
    simp only [mod8]
    have hz : (enc (tls l) ++ pad ((8 - ((enc (tls l)).length : Int) % 8) % 8)).length ≤ 1000 := by rw [List.length_append]; omega
    cases hn : noP (tls l) with
    | true =>
      have e : tls l = [] := List.isEmpty_iff.1 hn
      simp (disch := omega) only [dec_t, dec_f, inB_t, inC_t, andT_t, cond_true, cond_false, Bool.and_true, Bool.true_and, w64, wu32, wu8, nble_t, nblt_t, Bool.not_true, Bool.not_false, Bool.not_not, ieq_t, ieq_f, ine_t, ine_f, true_and, and_true, andT_l]
      rw [e]
      rfl
    | false =>
      simp (disch := omega) only [dec_t, dec_f, inB_t, inC_t, andT_t, cond_true, cond_false, Bool.and_true, Bool.true_and, w64, wu32, wu8, nble_t, nblt_t, Bool.not_true, Bool.not_false, Bool.not_not, ieq_t, ieq_f, ine_t, ine_f, true_and, and_true, andT_l]
  · rw [putB_no h0]
    simp (disch := omega) only [dec_t, dec_f, inB_t, inC_t, andT_t, cond_true, cond_false, Bool.and_true, Bool.true_and, w64, wu32, wu8, nble_t, nblt_t, Bool.not_true, Bool.not_false, Bool.not_not, ieq_t, ieq_f, ine_t, ine_f, true_and, and_true, andT_l]
def cTlvPut : List V → Option (V × Bool)
  | [.rows (.agg [.int .i64, .bytes]) l] => some (.tup [.ownv 5 (.bytes (putB (tls l))), .int .i64 (can 256 (tls l))], decide (l.length ≤ 4611686018427387904))
  | _ => none
theorem tlvPut_con : ∀ vs v, cTlvPut vs = some (v, true) → SpecV Tryz.prog 112 vs v := by
  intro vs v h; unfold cTlvPut at h; split at h
  · rename_i l
    injection h with h; injection h with h hb; subst h
    exact callV_ok Etvd_ok af_tlvPut_ok (tlvPut_v l (of_decide_eq_true hb))
  · cases h
end Go.Proofs.YtbojofchpnfnlaaGreat

namespace Go.Proofs.YtbojofchpnfnlaaGreat
open Go Go.Am Go.RowKit Go.Mix Go.Bas
set_option maxRecDepth 100000
def rqSt (l : List V) (i : Int) (ob : Option (List UInt8)) : S := growS 5 ob [(0, .rows (.agg [.int .i64, .bytes]) l), (6, .int .i64 i)] 54
def rqG0 : S → Option (Bool × Tr) := gOf 54 0 fun sl _ => match sl 0, sl 6, sl 5 with
  | some (.rows (.agg [.int .i64, .bytes]) l), some (.int .i64 i), some .nils => some (decide (tpI l l.length i none), growT 5 54 none (tls (l.drop i.toNat)))
  | _, _, _ => none
def rqG1 : S → Option (Bool × Tr) := gOf 54 1 fun sl hp => match sl 0, sl 6, sl 5, hp 0 with
  | some (.rows (.agg [.int .i64, .bytes]) l), some (.int .i64 i), some (.own 0 m (.int .u8)), some (.row T (.int .u8) (.bytes b)) => some (decide (m = b.length ∧ T = 5 ∧ tpI l l.length i (some b)), growT 5 54 (some b) (tls (l.drop i.toNat)))
  | _, _, _, _ => none
def nxt8 (n : Nat) : Int := (8 - (n : Int) % 8) % 8
def rnT (ob : Option (List UInt8)) : Tr := .leaf (.exit 2) (growS 5 ob [(7, .int .i64 (nxt8 (ob.getD []).length))] 54)
abbrev rnI (m : Int) (ob : Option (List UInt8)) : Prop := 0 ≤ m ∧ m ≤ nxt8 (ob.getD []).length ∧ (ob.getD []).length ≤ 1000000
def rnSt (m : Int) (ob : Option (List UInt8)) : S := growS 5 ob [(7, .int .i64 m)] 54
def rnG0 : S → Option (Bool × Tr) := gOf 54 0 fun sl _ => match sl 7, sl 5 with
  | some (.int .i64 m), some .nils => some (decide (rnI m none), rnT none)
  | _, _ => none
def rnG1 : S → Option (Bool × Tr) := gOf 54 1 fun sl hp => match sl 7, sl 5, hp 0 with
  | some (.int .i64 m), some (.own 0 k (.int .u8)), some (.row T (.int .u8) (.bytes b)) => some (decide (k = b.length ∧ T = 5 ∧ rnI m (some b)), rnT (some b))
  | _, _, _ => none
noncomputable def af_rTlvPut : AF := afOf Tryz.prog Tryz.f88 [.sum [0, 6, 5] [] (orG rqG0 rqG1), .sum [7, 5] [] (orG rnG0 rnG1)]
noncomputable def rqC : AC := (af_rTlvPut.ac.sums.headD (.skip, [], [], fun _ => none)).1
noncomputable def rnC : AC := (af_rTlvPut.ac.sums.tail.headD (.skip, [], [], fun _ => none)).1
theorem rTlvPut_b (l : List V) (i : Int) (ob : Option (List UInt8)) : aev Etvd (inlN Etvd 6) rqC (bodyK [0, 6, 5] [5] []) (rqSt l i ob) =
    bif decide (i < l.length) then bif andT (andT (andT true (inB i l.length)) (inB i l.length)) (((ob.getD [] ++ [b8 (tlP (l.getD i.toNat .undef)).1, b8 (tlP (l.getD i.toNat .undef)).2.length]).length * 1).ble 140737488355328) && true then
      bif andT (andT true (inB i l.length)) (((growP ob (tlP (l.getD i.toNat .undef))).length * 1).ble 140737488355328) then
        some (.normal, rqSt l (IntKind.i64.wrap (i + 1)) (some (growP ob (tlP (l.getD i.toNat .undef))))) else none
      else none else some (.exit 0, growS 5 ob [] 54) := by
  cases ob <;> kernel_rfl
theorem rTlvPut_n (m : Int) (ob : Option (List UInt8)) : aev Etvd (inlN Etvd 6) rnC (bodyK [7, 5] [7, 5] []) (rnSt m ob) =
    bif (IntKind.i64.wrap (((ob.getD []).length : Int) + m)).tmod 8 != 0 then some (.normal, rnSt (IntKind.i64.wrap (m + 1)) ob) else some (.exit 2, rnSt m ob) := by
  cases ob <;> kernel_rfl
structure RqS where
  (l : List V)
  (i : Int)
  (ob : Option (List UInt8))
theorem rq_loop : LoopOk Tryz.prog rqC.erase [] (orG rqG0 rqG1) := by
  refine loop_ok Etvd_ok (d := 6) (AC.flat_ok (by kernel_rfl)) [0, 6, 5] [5] [] (orG rqG0 rqG1) (X := RqS) (fun x => rqSt x.l x.i x.ob) (fun x => growT 5 54 x.ob (tls (x.l.drop x.i.toNat)))
    (fun x => tpI x.l x.l.length x.i x.ob) (fun x => (x.l.length - x.i).toNat) ?_ ?_
  · intro s t h
    rcases orG_spec h with h | h
    · obtain ⟨h1, h2, h3, h⟩ := gOf_spec h
      split at h
      · rename_i l i q1 q2 q3
        injection h with h; injection h with hc ht
        exact ⟨⟨l, i, none⟩, .one h1 h2 (by simp [q1, q2, q3]) (by simp), of_decide_eq_true hc, ht.symm⟩
      · cases h
    · obtain ⟨h1, h2, h3, h⟩ := gOf_spec h
      split at h
      · rename_i l i m T b q1 q2 q3 q4
        injection h with h; injection h with hc ht
        obtain ⟨c1, c2, c3⟩ := of_decide_eq_true hc
        subst c1; subst c2
        exact ⟨⟨l, i, some b⟩, .one h1 h2 (by simp [q1, q2, q3]) (by simp [q4]), c3, ht.symm⟩
      · cases h
  · rintro ⟨l, i, ob⟩ ⟨-, h0, h1, hM, hb⟩
    simp only at h0 h1 hM hb ⊢
    rw [rTlvPut_b]
    obtain ⟨k, rfl⟩ := Int.eq_ofNat_of_zero_le h0
    simp only [Int.toNat_natCast] at hb ⊢
    by_cases hlt : k < l.length
    · have hd := tls_next hlt
      obtain ⟨p, hp⟩ : ∃ p, tlP (l.getD k .undef) = p := ⟨_, rfl⟩
      simp only [hp] at hd ⊢
      rw [hd, enc_cons] at hb
      have hl := growP_len ob p
      have hl2 : (ob.getD [] ++ [b8 p.1, b8 p.2.length]).length = (ob.getD []).length + 2 := by simp
      refine .inl ⟨⟨l, k + 1, some (growP ob p)⟩, ?_, ⟨rfl, by dsimp only; omega, by dsimp only; omega, hM, ?_⟩, by dsimp only; omega, ?_⟩
      · simp (disch := omega) only [dec_t, dec_f, inB_t, inC_t, andT_t, cond_true, cond_false, Bool.and_true, Bool.true_and, w64, wu32, wu8, nble_t, nblt_t, Bool.not_true, Bool.not_false, Bool.not_not, ieq_t, ieq_f, ine_t, ine_f, true_and, and_true, andT_l]
      · show (growP ob p).length + (enc (tls (l.drop (k + 1)))).length ≤ 1000000
        omega
      · intro e s h
        show Leaf (growT 5 54 ob (tls (l.drop k))) e s
        rw [hd]
        exact growT_next _ _ _ _ _ e s h
    · have hd : tls (l.drop k) = [] := by rw [List.drop_of_length_le (by omega)]; rfl
      refine .inr ⟨.exit 0, growS 5 ob [] 54, ?_, nofun, by rw [hd]; exact growT_end _ _ _⟩
      simp (disch := omega) only [dec_t, dec_f, inB_t, inC_t, andT_t, cond_true, cond_false, Bool.and_true, Bool.true_and, w64, wu32, wu8, nble_t, nblt_t, Bool.not_true, Bool.not_false, Bool.not_not, ieq_t, ieq_f, ine_t, ine_f, true_and, and_true, andT_l]
structure RnS where
  (m : Int)
  (ob : Option (List UInt8))
theorem rn_loop : LoopOk Tryz.prog rnC.erase [] (orG rnG0 rnG1) := by
  refine loop_ok Etvd_ok (d := 6) (AC.flat_ok (by kernel_rfl)) [7, 5] [7, 5] [] (orG rnG0 rnG1) (X := RnS) (fun x => rnSt x.m x.ob) (fun x => rnT x.ob)
    (fun x => rnI x.m x.ob) (fun x => (nxt8 (x.ob.getD []).length - x.m).toNat) ?_ ?_
  · intro s t h
    rcases orG_spec h with h | h
    · obtain ⟨h1, h2, h3, h⟩ := gOf_spec h
      split at h
      · rename_i m q1 q2
        injection h with h; injection h with hc ht
        exact ⟨⟨m, none⟩, .one h1 h2 (by simp [q1, q2]) (by simp), of_decide_eq_true hc, ht.symm⟩
      · cases h
    · obtain ⟨h1, h2, h3, h⟩ := gOf_spec h
      split at h
      · rename_i m k T b q1 q2 q3
        injection h with h; injection h with hc ht
        obtain ⟨c1, c2, c3⟩ := of_decide_eq_true hc
        subst c1; subst c2
        exact ⟨⟨m, some b⟩, .one h1 h2 (by simp [q1, q2]) (by simp [q3]), c3, ht.symm⟩
      · cases h
  · rintro ⟨m, ob⟩ ⟨h0, h1, hM⟩
    simp only at h0 h1 hM ⊢
    rw [rTlvPut_n]
    have hx : (IntKind.i64.wrap (((ob.getD []).length : Int) + m)).tmod 8 = (((ob.getD []).length : Int) + m) % 8 := by
      unfold nxt8 at h1
      rw [w64 (by omega) (by omega), tmd (by omega)]
    rw [hx]
    by_cases hlt : m < nxt8 (ob.getD []).length
    · refine .inl ⟨⟨m + 1, ob⟩, ?_, ⟨by dsimp only; omega, by dsimp only; omega, hM⟩, by dsimp only; omega, fun _ _ h => h⟩
      unfold nxt8 at hlt
      simp (disch := omega) only [dec_t, dec_f, inB_t, inC_t, andT_t, cond_true, cond_false, Bool.and_true, Bool.true_and, w64, wu32, wu8, nble_t, nblt_t, Bool.not_true, Bool.not_false, Bool.not_not, ieq_t, ieq_f, ine_t, ine_f, true_and, and_true, andT_l]
    · have e : m = nxt8 (ob.getD []).length := by omega
      refine .inr ⟨.exit 2, rnSt m ob, ?_, nofun, by rw [e]; exact .leaf⟩
      unfold nxt8 at e
      simp (disch := omega) only [dec_t, dec_f, inB_t, inC_t, andT_t, cond_true, cond_false, Bool.and_true, Bool.true_and, w64, wu32, wu8, nble_t, nblt_t, Bool.not_true, Bool.not_false, Bool.not_not, ieq_t, ieq_f, ine_t, ine_f, true_and, and_true, andT_l]
theorem af_rTlvPut_ok : AllOk Tryz.prog 88 af_rTlvPut := .sums Tryz.func88 (by kernel_rfl) (by kernel_rfl) (by kernel_rfl) (by kernel_rfl) (sums_two (c := rqC) (c2 := rnC) (ts := [0, 6, 5]) (ts2 := [7, 5]) (by kernel_rfl) (by kernel_rfl) rq_loop rn_loop)
theorem rTlvPut_t (l : List V) : callV Etvd af_rTlvPut [.rows (.agg [.int .i64, .bytes]) l] =
    bif andT true (decide (l.length ≤ (4611686018427387904 : Nat))) then
        bif can (256 : Int) (tls l) != (0 : Int) then
          some (V.tup [V.ownv (5 : Nat) (V.bytes []), V.int IntKind.i64 (can (256 : Int) (tls l))])
        else
          bif
              decide
                ((↑l.length : Int) = (↑l.length : Int) ∧
                  (0 : Int) ≤ (0 : Int) ∧
                    (0 : Int) ≤ (↑l.length : Int) ∧
                      (↑l.length : Int) ≤ (4611686018427387904 : Int) ∧
                        (0 : Nat) + (enc (tls (List.drop (0 : Nat) l))).length ≤ (1000000 : Nat)) then
            bif noP (tls (List.drop (0 : Nat) l)) then
              some (V.tup [V.ownv (5 : Nat) (V.bytes (pad (0 : Int))), V.int IntKind.i64 (0 : Int)])
            else
              bif
                  decide
                    (([] ++ enc (tls (List.drop (0 : Nat) l))).length = ([] ++ enc (tls (List.drop (0 : Nat) l))).length ∧
                      (5 : Nat) = (5 : Nat) ∧
                        (0 : Int) ≤ (0 : Int) ∧
                          (0 : Int) ≤ nxt8 ([] ++ enc (tls (List.drop (0 : Nat) l))).length ∧
                            ([] ++ enc (tls (List.drop (0 : Nat) l))).length ≤ (1000000 : Nat)) then
                bif
                    andT
                      (andT true
                        (decide
                          ((-4611686018427387904 : Int) ≤ nxt8 ([] ++ enc (tls (List.drop (0 : Nat) l))).length ∧
                            nxt8 ([] ++ enc (tls (List.drop (0 : Nat) l))).length ≤ (4611686018427387904 : Int))))
                      ((([] ++ enc (tls (List.drop (0 : Nat) l)) ++
                                pad (nxt8 ([] ++ enc (tls (List.drop (0 : Nat) l))).length)).length *
                            (1 : Nat)).ble
                        (140737488355328 : Nat)) then
                  some
                    (V.tup
                      [V.ownv (5 : Nat)
                          (V.bytes
                            ([] ++ enc (tls (List.drop (0 : Nat) l)) ++
                              pad (nxt8 ([] ++ enc (tls (List.drop (0 : Nat) l))).length))),
                        V.int IntKind.i64 (0 : Int)])
                else none
              else none
          else none
      else none := by kernel_rfl

theorem rTlvPut_v (l : List V) (h : l.length ≤ 4611686018427387904) : callV Etvd af_rTlvPut [.rows (.agg [.int .i64, .bytes]) l] = some (.tup [.ownv 5 (.bytes (putB (tls l))), .int .i64 (can 256 (tls l))]) := by
  rw [rTlvPut_t]
  simp only [List.drop_zero, List.nil_append]
  by_cases h0 : can 256 (tls l) = 0
  · have he := can_len (tls l) 256 h0
    have hp := pad_len (nxt8 (enc (tls l)).length)
    have hn8 : 0 ≤ nxt8 (enc (tls l)).length ∧ nxt8 (enc (tls l)).length ≤ 7 := by unfold nxt8; omega
    rw [putB_ok h0, h0]
    have hz : (enc (tls l) ++ pad (nxt8 (enc (tls l)).length)).length ≤ 1000 := by rw [List.length_append]; omega
    cases hn : noP (tls l) with
    | true =>
      have e : tls l = [] := List.isEmpty_iff.1 hn
      simp (disch := omega) only [dec_t, dec_f, inB_t, inC_t, andT_t, cond_true, cond_false, Bool.and_true, Bool.true_and, w64, wu32, wu8, nble_t, nblt_t, Bool.not_true, Bool.not_false, Bool.not_not, ieq_t, ieq_f, ine_t, ine_f, true_and, and_true, andT_l]
      rw [e]
      rfl
    | false =>
      simp (disch := omega) only [dec_t, dec_f, inB_t, inC_t, andT_t, cond_true, cond_false, Bool.and_true, Bool.true_and, w64, wu32, wu8, nble_t, nblt_t, Bool.not_true, Bool.not_false, Bool.not_not, ieq_t, ieq_f, ine_t, ine_f, true_and, and_true, andT_l]
      rfl
  · rw [putB_no h0]
    simp (disch := omega) only [dec_t, dec_f, inB_t, inC_t, andT_t, cond_true, cond_false, Bool.and_true, Bool.true_and, w64, wu32, wu8, nble_t, nblt_t, Bool.not_true, Bool.not_false, Bool.not_not, ieq_t, ieq_f, ine_t, ine_f, true_and, and_true, andT_l]
theorem rTlvPut_con : ∀ vs v, cTlvPut vs = some (v, true) → SpecV Tryz.prog 88 vs v := by
  intro vs v h; unfold cTlvPut at h; split at h
  · rename_i l
    injection h with h; injection h with h hb; subst h
    exact callV_ok Etvd_ok af_rTlvPut_ok (rTlvPut_v l (of_decide_eq_true hb))
  · cases h
end Go.Proofs.YtbojofchpnfnlaaGreat

namespace Go.Proofs.YtbojofchpnfnlaaGreat
open Go Go.Am Go.RowKit Go.Mix Go.Bas
set_option maxRecDepth 100000
def tlV (p : Int × List UInt8) : V := .agg [.int .i64 p.1, .bytes p.2]
section
variable {e1 e0 : Ex} {n : S} {f : Option (List V) → S}
end
def peI (p : Option (List (Int × List UInt8))) : Int := if p.isNone then 3 else 0
end Go.Proofs.YtbojofchpnfnlaaGreat

namespace Go.Proofs.YtbojofchpnfnlaaGreat
open Go Go.Am Go.RowKit Go.Mix Go.Bas
set_option maxRecDepth 100000
end Go.Proofs.YtbojofchpnfnlaaGreat

namespace Go.Proofs.YtbojofchpnfnlaaGreat
open Go Go.Am Go.RowKit Go.Mix Go.Bas
set_option maxRecDepth 100000
open Classical in
noncomputable def eqV (l m : List V) : Bool := decide (l = m)
end Go.Proofs.YtbojofchpnfnlaaGreat
