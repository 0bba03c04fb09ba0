/- Part Gg of the proof: laws used by the law of this claim. -/
import Derived.Test.YtbojofchpnfnlaaProg
import Derived.Test.YtbojofchpnfnlaaGd
import Derived.Test.YtbojofchpnfnlaaGk
import Derived.Test.YtbojofchpnfnlaaGf
import Derived.Test.YtbojofchpnfnlaaGe
set_option linter.all false
namespace Go.Proofs.Ytbojofchpnfnlaa
open Go.RowKit Go.Mix Go.Bas

def parse (l : List UInt8) : Option (List (Int × List UInt8)) :=
  match l with
  | [] => some []
  | [x] => if x = 0 then some [] else none
  | x :: m :: s =>
    if x = 0 then parse (m :: s) else if s.length < m.toNat then none
    else if x = 4 then parse (s.drop m.toNat) else (parse (s.drop m.toNat)).map (((x.toNat : Int), s.take m.toNat) :: ·)
termination_by l.length
decreasing_by all_goals (simp only [List.length_cons, List.length_drop]; omega)

theorem gt_zero {l : List UInt8} {i : Nat} (h : i < l.length) : gt l i = 0 ↔ l[i] = 0 := by
  rw [gt_of_lt h]
  constructor
  · intro e; exact UInt8.toNat_inj.1 (by simpa using e)
  · intro e; rw [e]; rfl
theorem gt_four {l : List UInt8} {i : Nat} (h : i < l.length) : gt l i = 4 ↔ l[i] = 4 := by
  rw [gt_of_lt h]
  constructor
  · intro e; exact UInt8.toNat_inj.1 (by simp; omega)
  · intro e; rw [e]; rfl
theorem parse_end {l : List UInt8} {i : Nat} (h : l.length ≤ i) : parse (l.drop i) = some [] := by
  rw [List.drop_eq_nil_of_le h, parse]
theorem parse_zero {l : List UInt8} {i : Nat} (h : i < l.length) (hz : gt l i = 0) : parse (l.drop i) = parse (l.drop (i + 1)) := by
  have hz' := (gt_zero h).1 hz
  rw [List.drop_eq_getElem_cons h, hz']
  rcases Nat.lt_or_ge (i + 1) l.length with h1 | h1
  · rw [List.drop_eq_getElem_cons h1, parse, if_pos rfl]
  · rw [List.drop_eq_nil_of_le h1, parse, parse, if_pos rfl]
theorem parse_one {l : List UInt8} {i : Nat} (h : i + 1 = l.length) (hz : gt l i ≠ 0) : parse (l.drop i) = none := by
  have hz' := mt (gt_zero (l := l) (i := i) (by omega)).2 hz
  rw [List.drop_eq_getElem_cons (by omega), List.drop_eq_nil_of_le (by omega), parse, if_neg hz']
theorem parse_short {l : List UInt8} {i : Nat} (h : i + 1 < l.length) (hz : gt l i ≠ 0) (hs : (l.length : Int) - i - 2 < gt l (i + 1)) : parse (l.drop i) = none := by
  have hz' := mt (gt_zero (l := l) (i := i) (by omega)).2 hz
  rw [gt_of_lt h] at hs
  rw [List.drop_eq_getElem_cons (by omega), List.drop_eq_getElem_cons h, parse, if_neg hz', if_pos (by simp; omega)]
theorem parse_part {l : List UInt8} {i : Nat} (h : i + 1 < l.length) (hz : gt l i ≠ 0) (hs : ¬ ((l.length : Int) - i - 2 < gt l (i + 1))) :
    parse (l.drop i) = if gt l i = 4 then parse (l.drop (i + 2 + (gt l (i + 1)).toNat)) else (parse (l.drop (i + 2 + (gt l (i + 1)).toNat))).map ((gt l i, (l.drop (i + 2)).take (gt l (i + 1)).toNat) :: ·) := by
  have hz' := mt (gt_zero (l := l) (i := i) (by omega)).2 hz
  rw [gt_of_lt h] at hs ⊢
  have h4 := gt_four (l := l) (i := i) (by omega)
  rw [List.drop_eq_getElem_cons (by omega), List.drop_eq_getElem_cons h, parse, if_neg hz', if_neg (by simp; omega), List.drop_drop, Int.toNat_natCast]
  by_cases h5 : gt l i = 4
  · rw [if_pos h5, if_pos (h4.1 h5)]
  · rw [if_neg h5, if_neg (mt h4.2 h5), gt_of_lt (by omega)]
end Go.Proofs.Ytbojofchpnfnlaa

namespace Go.Proofs.Ytbojofchpnfnlaa
open Go.RowKit Go.Mix Go.Bas

theorem parse_cons0 (s : List UInt8) : parse (0 :: s) = parse s := by
  cases s with
  | nil => rw [parse, parse, if_pos rfl]
  | cons m s => rw [parse, if_pos rfl]
theorem parse_data {x m : UInt8} {d s : List UInt8} (hx : x ≠ 0) (hm : m.toNat = d.length) :
    parse (x :: m :: (d ++ s)) = if x = 4 then parse s else (parse s).map (((x.toNat : Int), d) :: ·) := by
  rw [parse, if_neg hx, if_neg (by simp; omega), hm]
  simp
theorem b8_nat {n : Nat} (h : n < 256) : (b8 (n : Int)).toNat = n := by
  have := b8_toNat (n : Int)
  omega
theorem parse_padN {m : Nat} (h : 2 ≤ m) (h2 : m ≤ 257) (s : List UInt8) : parse (padN m ++ s) = parse s := by
  unfold padN
  rw [List.cons_append, List.cons_append, parse_data (by decide) (by
    rw [List.length_replicate, show (m : Int) - 2 = ((m - 2 : Nat) : Int) by omega]; exact b8_nat (by omega)), if_pos rfl]
theorem parse_pad (n : Int) (s : List UInt8) : parse (pad n ++ s) = parse s := by
  unfold pad
  split
  · rfl
  · split
    · exact parse_cons0 s
    · split
      · exact parse_padN (by omega) (by omega) s
      · exact parse_padN (by omega) (by omega) s
theorem parse_enc : ∀ (L : List (Int × List UInt8)) (left : Int) (s : List UInt8), can left L = 0 → parse (enc L ++ s) = (parse s).map (L ++ ·)
  | [], left, s, _ => by simp [enc]
  | p :: r, left, s, h => by
    rw [can] at h
    split at h
    · cases h
    · rename_i hk
      split at h
      · cases h
      · rename_i hl
        have ih := parse_enc r _ s h
        obtain ⟨kd, dt⟩ := p
        dsimp only at hk hl ⊢
        have e1 : ((b8 kd).toNat : Int) = kd := by rw [b8_toNat]; omega
        have n0 : b8 kd ≠ 0 := by intro e; rw [e] at e1; simp at e1; omega
        have n4 : b8 kd ≠ 4 := by intro e; rw [e] at e1; simp at e1; omega
        rw [enc, List.cons_append, List.cons_append, List.append_assoc, parse_data n0 (b8_nat (by dsimp only; omega)), if_neg n4, ih, e1, Option.map_map]
        congr 1
theorem parse_back {L : List (Int × List UInt8)} {left : Int} (h : can left L = 0) (n k m : Int) : parse (pad n ++ (enc L ++ pad k) ++ pad m) = some L := by
  rw [List.append_assoc, parse_pad, List.append_assoc, parse_enc L left _ h, parse_pad]
  have := parse_pad m []
  rw [List.append_nil] at this
  rw [this, parse]
  simp
end Go.Proofs.Ytbojofchpnfnlaa

namespace Go.Proofs.Ytbojofchpnfnlaa
open Go Go.Am Go.RowKit Go.Mix Go.Bas
set_option maxRecDepth 100000
def tlP (v : V) : Int × List UInt8 := (toI ((toG v).headD .undef), toL ((toG v).tail.headD .undef))
def tls (l : List V) : List (Int × List UInt8) := l.map tlP
theorem tls_next {l : List V} {k : Nat} (h : k < l.length) : tls (l.drop k) = tlP (l.getD k .undef) :: tls (l.drop (k + 1)) := by
  rw [drop_next (d := V.undef) h]; rfl
abbrev tlB (p : Int × List UInt8) : Prop := p.1 ≤ 0 ∨ 255 < p.1 ∨ p.1 = 4
def tcE : List (Int × List UInt8) → Int
  | [] => 0
  | p :: r => if tlB p then 2 else if 255 < p.2.length then 4 else tcE r
def tcN (left : Int) (n : Nat) : Int := if left < 0 then left else left - (2 + n)
def tcL : Int → List (Int × List UInt8) → Int
  | left, [] => left
  | left, p :: r => if tlB p then left else if 255 < p.2.length then left else tcL (tcN left p.2.length) r
theorem can_tc : ∀ (L : List (Int × List UInt8)) (left : Int), can left L = if tcE L = 0 then (if tcL left L < 0 then 8 else 0) else tcE L
  | [], left => by rw [can, tcE, tcL, if_pos rfl]
  | p :: r, left => by
    rw [can, tcE, tcL]
    by_cases h1 : tlB p
    · rw [if_pos h1, if_pos h1]; rfl
    · rw [if_neg h1, if_neg h1, if_neg h1]
      by_cases h2 : 255 < p.2.length
      · rw [if_pos h2, if_pos h2]; rfl
      · rw [if_neg h2, if_neg h2, if_neg h2]
        exact can_tc r _
/-! ### tlv.Can -/
def tcX (e left : Int) : S := ⟨[(2, .int .i64 e), (3, .int .i64 left)], [], 0, true, 43⟩
def tcT (l : List V) (left r : Int) : Tr := .br (decide (tcE (tls l) = 0)) (.leaf (.exit 0) (tcX r (tcL left (tls l)))) (.leaf .ret (tcX (tcE (tls l)) (tcL left (tls l))))
def tcG : S → Option (Bool × Tr) := gOf 43 0 fun sl _ => match sl 7, sl 8, sl 9, sl 3, sl 2 with
  | some (.rows (.agg [.int .i64, .bytes]) l), some (.int .i64 n), some (.int .i64 i), some (.int .i64 left), some (.int .i64 r) => some (decide (n = l.length ∧ 0 ≤ i ∧ i ≤ n ∧ n ≤ 4611686018427387904 ∧ -257 ≤ left ∧ left ≤ 256), tcT (l.drop i.toNat) left r)
  | _, _, _, _, _ => none
noncomputable def af_tlvCan : AF := afOf Try.prog Try.f189 [.sum [7, 8, 9, 3, 2] [] tcG]
noncomputable def tcC : AC := (af_tlvCan.ac.sums.headD (.skip, [], [], fun _ => none)).1
def tcSt (l : List V) (n i left r : Int) : S := ⟨[(7, .rows (.agg [.int .i64, .bytes]) l), (8, .int .i64 n), (9, .int .i64 i), (3, .int .i64 left), (2, .int .i64 r)], [], 0, true, 43⟩
noncomputable def GEtv0 : List (Nat × Con) := []
theorem GEtv0_ok : GOk Try.prog GEtv0 := .nil
noncomputable def IEtv0 : List (Nat × AF) := []
theorem IEtv0_ok : IOk Try.prog IEtv0 := .nil
noncomputable def CEtv0 : List (Nat × (List Nat × (S → Option S))) := []
theorem CEtv0_ok : COk Try.prog CEtv0 := .nil
noncomputable def XEtv0 : List (Nat × (List Sh × (List V → PT))) := []
theorem XEtv0_ok : XOk Try.prog XEtv0 := .nil
noncomputable def Etv0 : Env := ⟨Try.prog, GEtv0, IEtv0, CEtv0, XEtv0⟩
theorem Etv0_ok : EnvOk Etv0 := ⟨by kernel_rfl, GEtv0_ok, IEtv0_ok, CEtv0_ok, XEtv0_ok⟩
theorem tlvCan_b (l : List V) (n i left r : Int) : aev Etv0 (inlN Etv0 6) tcC (bodyK [7, 8, 9, 3, 2] [2, 3] []) (tcSt l n i left r) =
    bif decide (i < n) then
        bif andT true (inB i l.length) then
          bif decide (toI ((toG (l.getD i.toNat V.undef)).headD V.undef) ≤ (0 : Int)) then
            some
              (Ex.ret,
                { sl := [((2 : Nat), V.int IntKind.i64 (2 : Int)), ((3 : Nat), V.int IntKind.i64 left)], hp := [],
                  nx := (0 : Nat), ob := true, n := (43 : Nat) })
          else
            bif decide (toI ((toG (l.getD i.toNat V.undef)).headD V.undef) > (255 : Int)) then
              some
                (Ex.ret,
                  { sl := [((2 : Nat), V.int IntKind.i64 (2 : Int)), ((3 : Nat), V.int IntKind.i64 left)], hp := [],
                    nx := (0 : Nat), ob := true, n := (43 : Nat) })
            else
              bif toI ((toG (l.getD i.toNat V.undef)).headD V.undef) == (4 : Int) then
                some
                  (Ex.ret,
                    { sl := [((2 : Nat), V.int IntKind.i64 (2 : Int)), ((3 : Nat), V.int IntKind.i64 left)], hp := [],
                      nx := (0 : Nat), ob := true, n := (43 : Nat) })
              else
                bif decide ((↑(toL ((toG (l.getD i.toNat V.undef)).tail.headD V.undef)).length : Int) > (255 : Int)) then
                  some
                    (Ex.ret,
                      { sl := [((2 : Nat), V.int IntKind.i64 (4 : Int)), ((3 : Nat), V.int IntKind.i64 left)], hp := [],
                        nx := (0 : Nat), ob := true, n := (43 : Nat) })
                else
                  bif decide (left ≥ (0 : Int)) then
                    some
                      (Ex.normal,
                        {
                          sl :=
                            [((7 : Nat), V.rows (Sh.agg [Sh.int IntKind.i64, Sh.bytes]) l),
                              ((8 : Nat), V.int IntKind.i64 n),
                              ((9 : Nat), V.int IntKind.i64 (IntKind.i64.wrap (i + (1 : Int)))),
                              ((3 : Nat),
                                V.int IntKind.i64
                                  (IntKind.i64.wrap
                                    (left -
                                      IntKind.i64.wrap
                                        ((2 : Int) +
                                          (↑(toL ((toG (l.getD i.toNat V.undef)).tail.headD V.undef)).length : Int))))),
                              ((2 : Nat), V.int IntKind.i64 r)],
                          hp := [], nx := (0 : Nat), ob := true, n := (43 : Nat) })
                  else
                    some
                      (Ex.normal,
                        {
                          sl :=
                            [((7 : Nat), V.rows (Sh.agg [Sh.int IntKind.i64, Sh.bytes]) l),
                              ((8 : Nat), V.int IntKind.i64 n),
                              ((9 : Nat), V.int IntKind.i64 (IntKind.i64.wrap (i + (1 : Int)))),
                              ((3 : Nat), V.int IntKind.i64 left), ((2 : Nat), V.int IntKind.i64 r)],
                          hp := [], nx := (0 : Nat), ob := true, n := (43 : Nat) })
        else none
      else
        some
          (Ex.exit (0 : Nat),
            { sl := [((2 : Nat), V.int IntKind.i64 r), ((3 : Nat), V.int IntKind.i64 left)], hp := [], nx := (0 : Nat),
              ob := true, n := (43 : Nat) }) := by kernel_rfl

structure TcS where
  (l : List V)
  (n i left r : Int)
theorem tc_loop : LoopOk Try.prog tcC.erase [] tcG := by
  refine loop_ok Etv0_ok (d := 6) (AC.flat_ok (by kernel_rfl)) [7, 8, 9, 3, 2] [2, 3] [] tcG (X := TcS) (fun x => tcSt x.l x.n x.i x.left x.r) (fun x => tcT (x.l.drop x.i.toNat) x.left x.r)
    (fun x => x.n = x.l.length ∧ 0 ≤ x.i ∧ x.i ≤ x.n ∧ x.n ≤ 4611686018427387904 ∧ -257 ≤ x.left ∧ x.left ≤ 256) (fun x => (x.n - x.i).toNat) ?_ ?_
  · intro s t h
    obtain ⟨h1, h2, h3, h⟩ := gOf_spec h
    split at h
    · rename_i l n i left r q1 q2 q3 q4 q5
      injection h with h; injection h with hc ht
      exact ⟨⟨l, n, i, left, r⟩, .one h1 h2 (by simp [q1, q2, q3, q4, q5]) (by simp), of_decide_eq_true hc, ht.symm⟩
    · cases h
  · rintro ⟨l, n, i, left, r⟩ ⟨hn, h0, h1, hM, hl, hh⟩
    simp only at hn h0 h1 hM hl hh ⊢
    subst hn
    rw [tlvCan_b]
    obtain ⟨k, rfl⟩ := Int.eq_ofNat_of_zero_le h0
    simp only [Int.toNat_natCast]
    by_cases hlt : k < l.length
    · have hd := tls_next hlt
      change _ = (toI ((toG (l.getD k .undef)).headD .undef), toL ((toG (l.getD k .undef)).tail.headD .undef)) :: _ at hd
      obtain ⟨kd, hkd⟩ : ∃ kd, toI ((toG (l.getD k .undef)).headD .undef) = kd := ⟨_, rfl⟩
      obtain ⟨d, hdd⟩ : ∃ d, toL ((toG (l.getD k .undef)).tail.headD .undef) = d := ⟨_, rfl⟩
      simp only [hkd, hdd] at hd ⊢
      by_cases hB : tlB (kd, d)
      · refine .inr ⟨.ret, tcX 2 left, ?_, nofun, leaf_f (by rw [hd, tcE, if_pos hB]; rfl) (by rw [hd, tcE, tcL, if_pos hB, if_pos hB]; exact .leaf)⟩
        change kd ≤ 0 ∨ 255 < kd ∨ kd = 4 at hB
        by_cases a1 : kd ≤ 0
        · simp (disch := omega) only [dec_t, dec_f, inB_t, inC_t, andT_t, cond_true, cond_false, Bool.and_true, Bool.true_and, w64, wu32, wu8, nble_t, nblt_t, Bool.not_true, Bool.not_false, Bool.not_not, ieq_t, ieq_f, ine_t, ine_f, true_and, and_true, andT_l]
          rfl
        · by_cases a2 : kd > 255
          · simp (disch := omega) only [dec_t, dec_f, inB_t, inC_t, andT_t, cond_true, cond_false, Bool.and_true, Bool.true_and, w64, wu32, wu8, nble_t, nblt_t, Bool.not_true, Bool.not_false, Bool.not_not, ieq_t, ieq_f, ine_t, ine_f, true_and, and_true, andT_l]
            rfl
          · have a3 : kd = 4 := by omega
            simp (disch := omega) only [dec_t, dec_f, inB_t, inC_t, andT_t, cond_true, cond_false, Bool.and_true, Bool.true_and, w64, wu32, wu8, nble_t, nblt_t, Bool.not_true, Bool.not_false, Bool.not_not, ieq_t, ieq_f, ine_t, ine_f, true_and, and_true, andT_l]
            rfl
      · have hB' : ¬ (kd ≤ 0 ∨ 255 < kd ∨ kd = 4) := hB
        by_cases hL : 255 < d.length
        · refine .inr ⟨.ret, tcX 4 left, ?_, nofun, leaf_f (by rw [hd, tcE, if_neg hB, if_pos hL]; rfl) (by rw [hd, tcE, tcL, if_neg hB, if_neg hB, if_pos hL, if_pos hL]; exact .leaf)⟩
          simp (disch := omega) only [dec_t, dec_f, inB_t, inC_t, andT_t, cond_true, cond_false, Bool.and_true, Bool.true_and, w64, wu32, wu8, nble_t, nblt_t, Bool.not_true, Bool.not_false, Bool.not_not, ieq_t, ieq_f, ine_t, ine_f, true_and, and_true, andT_l]
          rfl
        · have hT : ∀ r, tcT (l.drop k) left r = tcT (l.drop (k + 1)) (tcN left d.length) r := by
            intro r
            unfold tcT
            rw [hd, tcE, tcL, if_neg hB, if_neg hB, if_neg hL, if_neg hL]
          refine .inl ⟨⟨l, l.length, k + 1, tcN left d.length, r⟩, ?_, ⟨rfl, by dsimp only; omega, by dsimp only; omega, hM, ?_, ?_⟩, by dsimp only; omega, leaf_eq (by show tcT (l.drop (k + 1)) (tcN left d.length) r = tcT (l.drop k) left r; exact (hT r).symm)⟩
          · unfold tcN
            by_cases hz : left < 0
            · rw [if_pos hz]
              simp (disch := omega) only [dec_t, dec_f, inB_t, inC_t, andT_t, cond_true, cond_false, Bool.and_true, Bool.true_and, w64, wu32, wu8, nble_t, nblt_t, Bool.not_true, Bool.not_false, Bool.not_not, ieq_t, ieq_f, ine_t, ine_f, true_and, and_true, andT_l]
              rfl
            · rw [if_neg hz]
              simp (disch := omega) only [dec_t, dec_f, inB_t, inC_t, andT_t, cond_true, cond_false, Bool.and_true, Bool.true_and, w64, wu32, wu8, nble_t, nblt_t, Bool.not_true, Bool.not_false, Bool.not_not, ieq_t, ieq_f, ine_t, ine_f, true_and, and_true, andT_l]
              rfl
          · dsimp only; unfold tcN; split <;> omega
          · dsimp only; unfold tcN; split <;> omega
    · have hd : tls (l.drop k) = [] := by rw [List.drop_of_length_le (by omega)]; rfl
      refine .inr ⟨.exit 0, tcX r left, ?_, nofun, leaf_t (by rw [hd]; rfl) (by rw [hd]; exact .leaf)⟩
      simp (disch := omega) only [dec_t, dec_f, inB_t, inC_t, andT_t, cond_true, cond_false, Bool.and_true, Bool.true_and, w64, wu32, wu8, nble_t, nblt_t, Bool.not_true, Bool.not_false, Bool.not_not, ieq_t, ieq_f, ine_t, ine_f, true_and, and_true, andT_l]
      rfl
theorem af_tlvCan_ok : AllOk Try.prog 189 af_tlvCan := .sums Try.func189 (by kernel_rfl) (by kernel_rfl) (by kernel_rfl) (by kernel_rfl) (sums_one (c := tcC) (ts := [7, 8, 9, 3, 2]) (by kernel_rfl) (by kernel_rfl) tc_loop)
theorem tlvCan_t (l : List V) : callV Etv0 af_tlvCan [.rows (.agg [.int .i64, .bytes]) l] =
    bif
          decide
            ((↑l.length : Int) = (↑l.length : Int) ∧
              (0 : Int) ≤ (0 : Int) ∧
                (0 : Int) ≤ (↑l.length : Int) ∧
                  (↑l.length : Int) ≤ (4611686018427387904 : Int) ∧
                    (-257 : Int) ≤ (256 : Int) ∧ (256 : Int) ≤ (256 : Int)) then
        bif decide (tcE (tls (List.drop (0 : Nat) l)) = (0 : Int)) then
          bif decide (tcL (256 : Int) (tls (List.drop (0 : Nat) l)) < (0 : Int)) then some (V.int IntKind.i64 (8 : Int))
          else some (V.int IntKind.i64 (0 : Int))
        else some (V.int IntKind.i64 (tcE (tls (List.drop (0 : Nat) l))))
      else none := by kernel_rfl

theorem tlvCan_v (l : List V) (h : l.length ≤ 4611686018427387904) : callV Etv0 af_tlvCan [.rows (.agg [.int .i64, .bytes]) l] = some (.int .i64 (can 256 (tls l))) := by
  rw [tlvCan_t, can_tc, List.drop_zero]
  by_cases h1 : tcE (tls l) = 0
  · by_cases h2 : tcL 256 (tls l) < 0
    · rw [if_pos h1, if_pos h2]
      simp (disch := omega) only [dec_t, dec_f, inB_t, inC_t, andT_t, cond_true, cond_false, Bool.and_true, Bool.true_and, w64, wu32, wu8, nble_t, nblt_t, Bool.not_true, Bool.not_false, Bool.not_not, ieq_t, ieq_f, ine_t, ine_f, true_and, and_true, andT_l]
    · rw [if_pos h1, if_neg h2]
      simp (disch := omega) only [dec_t, dec_f, inB_t, inC_t, andT_t, cond_true, cond_false, Bool.and_true, Bool.true_and, w64, wu32, wu8, nble_t, nblt_t, Bool.not_true, Bool.not_false, Bool.not_not, ieq_t, ieq_f, ine_t, ine_f, true_and, and_true, andT_l]
  · rw [if_neg h1]
    simp (disch := omega) only [dec_t, dec_f, inB_t, inC_t, andT_t, cond_true, cond_false, Bool.and_true, Bool.true_and, w64, wu32, wu8, nble_t, nblt_t, Bool.not_true, Bool.not_false, Bool.not_not, ieq_t, ieq_f, ine_t, ine_f, true_and, and_true, andT_l]
def cTlvCan : List V → Option (V × Bool)
  | [.rows (.agg [.int .i64, .bytes]) l] => some (.int .i64 (can 256 (tls l)), decide (l.length ≤ 4611686018427387904))
  | _ => none
theorem tlvCan_con : ∀ vs v, cTlvCan vs = some (v, true) → SpecV Try.prog 189 vs v := by
  intro vs v h; unfold cTlvCan at h; split at h
  · rename_i l
    injection h with h; injection h with h hb; subst h
    exact callV_ok Etv0_ok af_tlvCan_ok (tlvCan_v l (of_decide_eq_true hb))
  · cases h
end Go.Proofs.Ytbojofchpnfnlaa

namespace Go.Proofs.Ytbojofchpnfnlaa
open Go Go.Am Go.RowKit Go.Mix Go.Bas
set_option maxRecDepth 100000
/-! ### Pad -/
noncomputable def af_tlvPad : AF := afOf Try.prog Try.f190 []
theorem af_tlvPad_ok : AllOk Try.prog 190 af_tlvPad := .flat Try.func190 (by kernel_rfl) (by kernel_rfl) (by kernel_rfl) (by kernel_rfl) (by kernel_rfl)
theorem tlvPad_t (n : Int) : callV Etv0 af_tlvPad [.int .i64 n] =
    bif decide ((if (257 : Int) < n then (257 : Int) else n) < (1 : Int)) then some (V.ownv (5 : Nat) (V.bytes []))
      else
        bif (if (257 : Int) < n then (257 : Int) else n) == (1 : Int) then
          some (V.ownv (5 : Nat) (V.bytes (u8 (0 : Int) :: List.replicate (nat_lit 0) (0 : UInt8))))
        else
          bif
              andT true
                (((if (257 : Int) < n then (257 : Int) else n) == if (257 : Int) < n then (257 : Int) else n) &&
                    Am.inC (if (257 : Int) < n then (257 : Int) else n) (9223372036854775807 : Nat) &&
                  ((1 : Nat) * (if (257 : Int) < n then (257 : Int) else n).toNat).ble (281474976710656 : Nat)) then
            bif
                andT (andT true (inB (0 : Int) (if (257 : Int) < n then (257 : Int) else n).toNat))
                  (inB (1 : Int) (if (257 : Int) < n then (257 : Int) else n).toNat) then
              some
                (V.ownv (5 : Nat)
                  (V.bytes
                    (((List.replicate (if (257 : Int) < n then (257 : Int) else n).toNat (0 : UInt8)).set (0 : Nat)
                          (u8 (4 : Int))).set
                      (1 : Nat)
                      (u8
                        (IntKind.u8.wrap (IntKind.i64.wrap ((if (257 : Int) < n then (257 : Int) else n) - (2 : Int))))))))
            else none
          else none := by kernel_rfl

theorem u8_wrap (x : Int) : u8 (IntKind.u8.wrap x) = b8 x := rfl
theorem u8_b8 {x : Int} (h0 : 0 ≤ x) (h1 : x ≤ 255) : u8 x = b8 x := by rw [← u8_wrap, wu8 h0 h1]
theorem tlvPad_v (n : Int) (h1 : -4611686018427387904 ≤ n) (h2 : n ≤ 4611686018427387904) : callV Etv0 af_tlvPad [.int .i64 n] = some (.ownv 5 (.bytes (pad n))) := by
  rw [tlvPad_t]
  obtain ⟨m, hm⟩ : ∃ m, (if 257 < n then 257 else n) = m := ⟨_, rfl⟩
  simp only [hm]
  have hm2 : m ≤ 257 ∧ (n ≤ 257 → m = n) ∧ (257 < n → m = 257) := by subst hm; split <;> omega
  by_cases c1 : m < 1
  · rw [pad_small (by omega)]
    simp (disch := omega) only [dec_t, dec_f, inB_t, inC_t, andT_t, cond_true, cond_false, Bool.and_true, Bool.true_and, w64, wu32, wu8, nble_t, nblt_t, Bool.not_true, Bool.not_false, Bool.not_not, ieq_t, ieq_f, ine_t, ine_f, true_and, and_true, andT_l]
  · by_cases c2 : m = 1
    · have e : n = 1 := by omega
      subst e
      simp (disch := omega) only [dec_t, dec_f, inB_t, inC_t, andT_t, cond_true, cond_false, Bool.and_true, Bool.true_and, w64, wu32, wu8, nble_t, nblt_t, Bool.not_true, Bool.not_false, Bool.not_not, ieq_t, ieq_f, ine_t, ine_f, true_and, and_true, andT_l]
      rfl
    · obtain ⟨k, rfl⟩ := Int.eq_ofNat_of_zero_le (show 0 ≤ m by omega)
      have e : pad n = padN k := by
        rcases Nat.lt_or_ge k 257 with h | h
        · rw [show n = (k : Int) by omega, pad_mid (by omega) (by omega)]
        · rw [show k = 257 by omega, pad_big (by omega)]
      rw [e, ← padN_set (by omega)]
      simp only [Int.toNat_natCast]
      simp (disch := omega) only [dec_t, dec_f, inB_t, inC_t, andT_t, cond_true, cond_false, Bool.and_true, Bool.true_and, w64, wu32, wu8, nble_t, nblt_t, Bool.not_true, Bool.not_false, Bool.not_not, ieq_t, ieq_f, ine_t, ine_f, true_and, and_true, andT_l]
      rw [show u8 4 = 4 from rfl, u8_b8 (x := (k : Int) - 2) (by omega) (by omega)]
def cTlvPad : List V → Option (V × Bool)
  | [.int .i64 n] => some (.ownv 5 (.bytes (pad n)), decide (-4611686018427387904 ≤ n ∧ n ≤ 4611686018427387904))
  | _ => none
theorem tlvPad_con : ∀ vs v, cTlvPad vs = some (v, true) → SpecV Try.prog 190 vs v := by
  intro vs v h; unfold cTlvPad at h; split at h
  · rename_i n
    injection h with h; injection h with h hb; subst h
    exact callV_ok Etv0_ok af_tlvPad_ok (tlvPad_v n (of_decide_eq_true hb).1 (of_decide_eq_true hb).2)
  · cases h
end Go.Proofs.Ytbojofchpnfnlaa

namespace Go.Proofs.Ytbojofchpnfnlaa
open Go Go.Am Go.RowKit Go.Mix Go.Bas
set_option maxRecDepth 100000
/-- an own row of bytes in slot t -/
def rowS (t : Nat) (b : List UInt8) (sl : List (Nat × V)) (n : Nat) : S := ⟨sl ++ [(t, .own 0 b.length (.int .u8))], [(0, some (.row 5 (.int .u8) (.bytes b)))], 1, true, n⟩
end Go.Proofs.Ytbojofchpnfnlaa

namespace Go.Proofs.Ytbojofchpnfnlaa
open Go Go.Am Go.RowKit Go.Mix Go.Bas
set_option maxRecDepth 100000
/-- a row that grows: nothing yet, or a row of the call's own -/
def growS (t : Nat) : Option (List UInt8) → List (Nat × V) → Nat → S
  | none, sl, n => ⟨sl ++ [(t, .nils)], [], 0, true, n⟩
  | some b, sl, n => rowS t b sl n
def noP (L : List (Int × List UInt8)) : Bool := L.isEmpty
def growT (t : Nat) (n : Nat) (ob : Option (List UInt8)) (L : List (Int × List UInt8)) : Tr := .br (ob.isNone && noP L) (.leaf (.exit 0) (growS t none [] n)) (.leaf (.exit 0) (growS t (some (ob.getD [] ++ enc L)) [] n))
theorem growT_end (t n : Nat) (ob : Option (List UInt8)) : Leaf (growT t n ob []) (.exit 0) (growS t ob [] n) := by
  cases ob with
  | none => exact leaf_t rfl .leaf
  | some b => exact leaf_f rfl (by rw [enc, List.append_nil]; exact .leaf)
theorem growT_next (t n : Nat) (ob : Option (List UInt8)) (p : Int × List UInt8) (r : List (Int × List UInt8)) : ∀ e s, Leaf (growT t n (some ((ob.getD [] ++ [b8 p.1, b8 p.2.length]) ++ p.2)) r) e s → Leaf (growT t n ob (p :: r)) e s := by
  intro e s h
  have : growT t n (some ((ob.getD [] ++ [b8 p.1, b8 p.2.length]) ++ p.2)) r = .br false (.leaf (.exit 0) (growS t none [] n)) (.leaf (.exit 0) (growS t (some (ob.getD [] ++ enc (p :: r))) [] n)) := by
    unfold growT
    rw [enc, show (some ((ob.getD [] ++ [b8 p.1, b8 p.2.length]) ++ p.2)).getD [] ++ enc r = ob.getD [] ++ b8 p.1 :: b8 p.2.length :: (p.2 ++ enc r) by simp]
    rfl
  rw [this] at h
  refine leaf_f ?_ ?_
  · simp [noP]
  · cases h with
    | f h => exact h
def tpSt (l : List V) (n i : Int) (ob : Option (List UInt8)) : S := growS 5 ob [(13, .rows (.agg [.int .i64, .bytes]) l), (14, .int .i64 n), (15, .int .i64 i)] 41
abbrev tpI (l : List V) (n i : Int) (ob : Option (List UInt8)) : Prop := n = l.length ∧ 0 ≤ i ∧ i ≤ n ∧ n ≤ 4611686018427387904 ∧ (ob.getD []).length + (enc (tls (l.drop i.toNat))).length ≤ 1000000
def tpG0 : S → Option (Bool × Tr) := gOf 41 0 fun sl _ => match sl 13, sl 14, sl 15, sl 5 with
  | some (.rows (.agg [.int .i64, .bytes]) l), some (.int .i64 n), some (.int .i64 i), some .nils => some (decide (tpI l n i none), growT 5 41 none (tls (l.drop i.toNat)))
  | _, _, _, _ => none
def tpG1 : S → Option (Bool × Tr) := gOf 41 1 fun sl hp => match sl 13, sl 14, sl 15, sl 5, hp 0 with
  | some (.rows (.agg [.int .i64, .bytes]) l), some (.int .i64 n), some (.int .i64 i), some (.own 0 m (.int .u8)), some (.row T (.int .u8) (.bytes b)) => some (decide (m = b.length ∧ T = 5 ∧ tpI l n i (some b)), growT 5 41 (some b) (tls (l.drop i.toNat)))
  | _, _, _, _, _ => none
def orG (f g : S → Option (Bool × Tr)) (s : S) : Option (Bool × Tr) := match f s with
  | some x => some x
  | none => g s
theorem orG_spec {f g : S → Option (Bool × Tr)} {s : S} {x : Bool × Tr} (h : orG f g s = some x) : f s = some x ∨ g s = some x := by
  unfold orG at h
  split at h
  · rename_i y hy; rw [hy]; exact .inl h
  · exact .inr h
noncomputable def af_tlvPut : AF := afOf Try.prog Try.f170 [.sum [13, 14, 15, 5] [] (orG tpG0 tpG1)]
noncomputable def tpC : AC := (af_tlvPut.ac.sums.headD (.skip, [], [], fun _ => none)).1
noncomputable def GEtvd : List (Nat × Con) := [(189, .val [.rows (.agg [.int .i64, .bytes])] cTlvCan), (190, .val [.int .i64] cTlvPad)]

theorem GEtvd_ok : GOk Try.prog GEtvd := .cons (enters_of Try.func189 (by kernel_rfl) rfl) tlvCan_con <| .cons (enters_of Try.func190 (by kernel_rfl) rfl) tlvPad_con <| .nil

noncomputable def IEtvd : List (Nat × AF) := []
theorem IEtvd_ok : IOk Try.prog IEtvd := .nil
noncomputable def CEtvd : List (Nat × (List Nat × (S → Option S))) := []
theorem CEtvd_ok : COk Try.prog CEtvd := .nil
noncomputable def XEtvd : List (Nat × (List Sh × (List V → PT))) := []
theorem XEtvd_ok : XOk Try.prog XEtvd := .nil
noncomputable def Etvd : Env := ⟨Try.prog, GEtvd, IEtvd, CEtvd, XEtvd⟩
theorem Etvd_ok : EnvOk Etvd := ⟨by kernel_rfl, GEtvd_ok, IEtvd_ok, CEtvd_ok, XEtvd_ok⟩
/-- a row with one more part -/
def growP (ob : Option (List UInt8)) (p : Int × List UInt8) : List UInt8 := (ob.getD [] ++ [b8 p.1, b8 p.2.length]) ++ p.2
theorem growP_len (ob : Option (List UInt8)) (p : Int × List UInt8) : (growP ob p).length = (ob.getD []).length + 2 + p.2.length := by simp only [growP, List.length_append, List.length_cons, List.length_nil]
theorem enc_cons (p : Int × List UInt8) (r : List (Int × List UInt8)) : (enc (p :: r)).length = 2 + p.2.length + (enc r).length := by simp only [enc, List.length_append, List.length_cons]; omega
theorem tlvPut_b (l : List V) (n i : Int) (ob : Option (List UInt8)) : aev Etvd (inlN Etvd 6) tpC (bodyK [13, 14, 15, 5] [5] []) (tpSt l n i ob) =
    bif decide (i < n) then bif andT true (inB i l.length) then
      bif andT (andT true (((ob.getD [] ++ [b8 (tlP (l.getD i.toNat .undef)).1, b8 (tlP (l.getD i.toNat .undef)).2.length]).length * 1).ble 140737488355328)) (((growP ob (tlP (l.getD i.toNat .undef))).length * 1).ble 140737488355328) && true then
        some (.normal, tpSt l n (IntKind.i64.wrap (i + 1)) (some (growP ob (tlP (l.getD i.toNat .undef))))) else none
      else none else some (.exit 0, growS 5 ob [] 41) := by
  cases ob <;> kernel_rfl
structure TpS where
  (l : List V)
  (n i : Int)
  (ob : Option (List UInt8))
theorem tp_loop : LoopOk Try.prog tpC.erase [] (orG tpG0 tpG1) := by
  refine loop_ok Etvd_ok (d := 6) (AC.flat_ok (by kernel_rfl)) [13, 14, 15, 5] [5] [] (orG tpG0 tpG1) (X := TpS) (fun x => tpSt x.l x.n x.i x.ob) (fun x => growT 5 41 x.ob (tls (x.l.drop x.i.toNat)))
    (fun x => tpI x.l x.n x.i x.ob) (fun x => (x.n - x.i).toNat) ?_ ?_
  · intro s t h
    rcases orG_spec h with h | h
    · obtain ⟨h1, h2, h3, h⟩ := gOf_spec h
      split at h
      · rename_i l n i q1 q2 q3 q4
        injection h with h; injection h with hc ht
        exact ⟨⟨l, n, i, none⟩, .one h1 h2 (by simp [q1, q2, q3, q4]) (by simp), of_decide_eq_true hc, ht.symm⟩
      · cases h
    · obtain ⟨h1, h2, h3, h⟩ := gOf_spec h
      split at h
      · rename_i l n i m T b q1 q2 q3 q4 q5
        injection h with h; injection h with hc ht
        obtain ⟨c1, c2, c3⟩ := of_decide_eq_true hc
        subst c1; subst c2
        exact ⟨⟨l, n, i, some b⟩, .one h1 h2 (by simp [q1, q2, q3, q4]) (by simp [q5]), c3, ht.symm⟩
      · cases h
  · rintro ⟨l, n, i, ob⟩ ⟨hn, h0, h1, hM, hb⟩
    simp only at hn h0 h1 hM hb ⊢
    subst hn
    rw [tlvPut_b]
    obtain ⟨k, rfl⟩ := Int.eq_ofNat_of_zero_le h0
    simp only [Int.toNat_natCast] at hb ⊢
    by_cases hlt : k < l.length
    · have hd := tls_next hlt
      obtain ⟨p, hp⟩ : ∃ p, tlP (l.getD k .undef) = p := ⟨_, rfl⟩
      simp only [hp] at hd ⊢
      rw [hd, enc_cons] at hb
      have hl := growP_len ob p
      have hl2 : (ob.getD [] ++ [b8 p.1, b8 p.2.length]).length = (ob.getD []).length + 2 := by simp
      refine .inl ⟨⟨l, l.length, k + 1, some (growP ob p)⟩, ?_, ⟨rfl, by dsimp only; omega, by dsimp only; omega, hM, ?_⟩, by dsimp only; omega, ?_⟩
      · simp (disch := omega) only [dec_t, dec_f, inB_t, inC_t, andT_t, cond_true, cond_false, Bool.and_true, Bool.true_and, w64, wu32, wu8, nble_t, nblt_t, Bool.not_true, Bool.not_false, Bool.not_not, ieq_t, ieq_f, ine_t, ine_f, true_and, and_true, andT_l]
      · show (growP ob p).length + (enc (tls (l.drop (k + 1)))).length ≤ 1000000
        omega
      · intro e s h
        show Leaf (growT 5 41 ob (tls (l.drop k))) e s
        rw [hd]
        exact growT_next _ _ _ _ _ e s h
    · have hd : tls (l.drop k) = [] := by rw [List.drop_of_length_le (by omega)]; rfl
      refine .inr ⟨.exit 0, growS 5 ob [] 41, ?_, nofun, by rw [hd]; exact growT_end _ _ _⟩
      simp (disch := omega) only [dec_t, dec_f, inB_t, inC_t, andT_t, cond_true, cond_false, Bool.and_true, Bool.true_and, w64, wu32, wu8, nble_t, nblt_t, Bool.not_true, Bool.not_false, Bool.not_not, ieq_t, ieq_f, ine_t, ine_f, true_and, and_true, andT_l]
theorem af_tlvPut_ok : AllOk Try.prog 170 af_tlvPut := .sums Try.func170 (by kernel_rfl) (by kernel_rfl) (by kernel_rfl) (by kernel_rfl) (sums_one (c := tpC) (ts := [13, 14, 15, 5]) (by kernel_rfl) (by kernel_rfl) tp_loop)
theorem tlvPut_t (l : List V) : callV Etvd af_tlvPut [.rows (.agg [.int .i64, .bytes]) l] =
    bif andT true (decide (l.length ≤ (4611686018427387904 : Nat))) then
        bif can (256 : Int) (tls l) != (0 : Int) then
          some (V.tup [V.ownv (5 : Nat) (V.bytes []), V.int IntKind.i64 (can (256 : Int) (tls l))])
        else
          bif
              decide
                ((↑l.length : Int) = (↑l.length : Int) ∧
                  (0 : Int) ≤ (0 : Int) ∧
                    (0 : Int) ≤ (↑l.length : Int) ∧
                      (↑l.length : Int) ≤ (4611686018427387904 : Int) ∧
                        (0 : Nat) + (enc (tls (List.drop (0 : Nat) l))).length ≤ (1000000 : Nat)) then
            bif noP (tls (List.drop (0 : Nat) l)) then
              some (V.tup [V.ownv (5 : Nat) (V.bytes (pad (0 : Int))), V.int IntKind.i64 (0 : Int)])
            else
              bif
                  andT
                    (andT true
                      (decide
                        ((-4611686018427387904 : Int) ≤
                            (IntKind.i64.wrap
                                  ((8 : Int) -
                                    (↑([] ++ enc (tls (List.drop (0 : Nat) l))).length : Int).tmod (8 : Int))).tmod
                              (8 : Int) ∧
                          (IntKind.i64.wrap
                                  ((8 : Int) -
                                    (↑([] ++ enc (tls (List.drop (0 : Nat) l))).length : Int).tmod (8 : Int))).tmod
                              (8 : Int) ≤
                            (4611686018427387904 : Int))))
                    ((([] ++ enc (tls (List.drop (0 : Nat) l)) ++
                              pad
                                ((IntKind.i64.wrap
                                      ((8 : Int) -
                                        (↑([] ++ enc (tls (List.drop (0 : Nat) l))).length : Int).tmod (8 : Int))).tmod
                                  (8 : Int))).length *
                          (1 : Nat)).ble
                      (140737488355328 : Nat)) then
                some
                  (V.tup
                    [V.ownv (5 : Nat)
                        (V.bytes
                          ([] ++ enc (tls (List.drop (0 : Nat) l)) ++
                            pad
                              ((IntKind.i64.wrap
                                    ((8 : Int) -
                                      (↑([] ++ enc (tls (List.drop (0 : Nat) l))).length : Int).tmod (8 : Int))).tmod
                                (8 : Int)))),
                      V.int IntKind.i64 (0 : Int)])
              else none
          else none
      else none := by kernel_rfl

theorem pad_zero : pad 0 = [] := rfl
theorem mod8 (n : Nat) : (IntKind.i64.wrap (8 - ((n : Int)).tmod 8)).tmod 8 = (8 - (n : Int) % 8) % 8 := by
  rw [tmd (a := (n : Int)) (by omega), w64 (by omega) (by omega), tmd (by omega)]
def putB (L : List (Int × List UInt8)) : List UInt8 := (put L).1
theorem putB_ok {L : List (Int × List UInt8)} (h : can 256 L = 0) : putB L = enc L ++ pad ((8 - (enc L).length % 8) % 8) := by unfold putB put; rw [if_pos h]
theorem putB_no {L : List (Int × List UInt8)} (h : ¬ can 256 L = 0) : putB L = [] := by unfold putB put; rw [if_neg h]
theorem tlvPut_v (l : List V) (h : l.length ≤ 4611686018427387904) : callV Etvd af_tlvPut [.rows (.agg [.int .i64, .bytes]) l] = some (.tup [.ownv 5 (.bytes (putB (tls l))), .int .i64 (can 256 (tls l))]) := by
  rw [tlvPut_t]
  simp only [List.drop_zero, List.nil_append]
  by_cases h0 : can 256 (tls l) = 0
  · have he := can_len (tls l) 256 h0
    have hp := pad_len ((8 - ((enc (tls l)).length : Int) % 8) % 8)
    rw [putB_ok h0, h0]
    simp only [mod8]
    have hz : (enc (tls l) ++ pad ((8 - ((enc (tls l)).length : Int) % 8) % 8)).length ≤ 1000 := by rw [List.length_append]; omega
    cases hn : noP (tls l) with
    | true =>
      have e : tls l = [] := List.isEmpty_iff.1 hn
      simp (disch := omega) only [dec_t, dec_f, inB_t, inC_t, andT_t, cond_true, cond_false, Bool.and_true, Bool.true_and, w64, wu32, wu8, nble_t, nblt_t, Bool.not_true, Bool.not_false, Bool.not_not, ieq_t, ieq_f, ine_t, ine_f, true_and, and_true, andT_l]
      rw [e]
      rfl
    | false =>
      simp (disch := omega) only [dec_t, dec_f, inB_t, inC_t, andT_t, cond_true, cond_false, Bool.and_true, Bool.true_and, w64, wu32, wu8, nble_t, nblt_t, Bool.not_true, Bool.not_false, Bool.not_not, ieq_t, ieq_f, ine_t, ine_f, true_and, and_true, andT_l]
  · rw [putB_no h0]
    simp (disch := omega) only [dec_t, dec_f, inB_t, inC_t, andT_t, cond_true, cond_false, Bool.and_true, Bool.true_and, w64, wu32, wu8, nble_t, nblt_t, Bool.not_true, Bool.not_false, Bool.not_not, ieq_t, ieq_f, ine_t, ine_f, true_and, and_true, andT_l]
def cTlvPut : List V → Option (V × Bool)
  | [.rows (.agg [.int .i64, .bytes]) l] => some (.tup [.ownv 5 (.bytes (putB (tls l))), .int .i64 (can 256 (tls l))], decide (l.length ≤ 4611686018427387904))
  | _ => none
theorem tlvPut_con : ∀ vs v, cTlvPut vs = some (v, true) → SpecV Try.prog 170 vs v := by
  intro vs v h; unfold cTlvPut at h; split at h
  · rename_i l
    injection h with h; injection h with h hb; subst h
    exact callV_ok Etvd_ok af_tlvPut_ok (tlvPut_v l (of_decide_eq_true hb))
  · cases h
end Go.Proofs.Ytbojofchpnfnlaa

namespace Go.Proofs.Ytbojofchpnfnlaa
open Go Go.Am Go.RowKit Go.Mix Go.Bas
set_option maxRecDepth 100000
end Go.Proofs.Ytbojofchpnfnlaa

namespace Go.Proofs.Ytbojofchpnfnlaa
open Go Go.Am Go.RowKit Go.Mix Go.Bas
set_option maxRecDepth 100000
def tlV (p : Int × List UInt8) : V := .agg [.int .i64 p.1, .bytes p.2]
/-- a row of parts that grows -/
def growV (t : Nat) : Option (List V) → List (Nat × V) → List (Nat × V) → Nat → S
  | none, sl, sr, n => ⟨sl ++ (t, .nils) :: sr, [], 0, true, n⟩
  | some L, sl, sr, n => ⟨sl ++ (t, .own 0 L.length (.agg [.int .i64, .bytes])) :: sr, [(0, some (.row 170 (.agg [.int .i64, .bytes]) (.rows (.agg [.int .i64, .bytes]) L)))], 1, true, n⟩
def noV (p : Option (List (Int × List UInt8))) : Bool := p.isNone
def paV (p : Option (List (Int × List UInt8))) : List V := (p.getD []).map tlV
def emV (l : List V) : Bool := l.isEmpty
/-- what reading comes to: an error (e1, n), or the parts (e0, f of the row) -/
def pqT (e1 : Ex) (n : S) (e0 : Ex) (f : Option (List V) → S) (b : List UInt8) (ob : Option (List V)) : Tr :=
  .br (noV (parse b)) (.leaf e1 n) (.br (ob.isNone && emV (paV (parse b))) (.leaf e0 (f none)) (.leaf e0 (f (some (ob.getD [] ++ paV (parse b))))))
section
variable {e1 e0 : Ex} {n : S} {f : Option (List V) → S}
theorem pj_end {b : List UInt8} (h : parse b = some []) (ob : Option (List V)) : Leaf (pqT e1 n e0 f b ob) e0 (f ob) := by
  unfold pqT
  rw [h]
  cases ob with
  | none => exact leaf_f rfl (leaf_t rfl .leaf)
  | some L => exact leaf_f rfl (leaf_f rfl (by show Leaf (.leaf e0 (f (some (L ++ [])))) _ _; rw [List.append_nil]; exact .leaf))
theorem pj_no {b : List UInt8} (h : parse b = none) (ob : Option (List V)) : Leaf (pqT e1 n e0 f b ob) e1 n := by
  unfold pqT
  rw [h]
  exact leaf_t rfl .leaf
theorem pj_same {b b' : List UInt8} (h : parse b = parse b') (ob : Option (List V)) : pqT e1 n e0 f b' ob = pqT e1 n e0 f b ob := by
  unfold pqT
  rw [h]
theorem pj_part {b b' : List UInt8} {p : Int × List UInt8} (h : parse b = (parse b').map (p :: ·)) (ob : Option (List V)) : ∀ e s, Leaf (pqT e1 n e0 f b' (some (ob.getD [] ++ [tlV p]))) e s → Leaf (pqT e1 n e0 f b ob) e s := by
  intro e s hl
  cases hp : parse b' with
  | none =>
    rw [hp] at h
    unfold pqT at hl ⊢
    rw [hp] at hl
    rw [h]
    cases hl with
    | t h => exact leaf_t rfl h
  | some r =>
    rw [hp] at h
    unfold pqT at hl ⊢
    rw [hp] at hl
    rw [h]
    cases hl with
    | f h => cases h with
      | f h =>
        refine leaf_f rfl (leaf_f (by simp [emV, paV]) ?_)
        have : ob.getD [] ++ [tlV p] ++ paV (some r) = ob.getD [] ++ paV (Option.map (fun x => p :: x) (some r)) := by simp [paV]
        rw [show (some (ob.getD [] ++ [tlV p])).getD [] = ob.getD [] ++ [tlV p] from rfl, this] at h
        exact h
end
def pjT (b : List UInt8) (ob : Option (List V)) : Tr := pqT .ret (growV 2 none [] [(3, .int .i64 3)] 56) .ret (fun o => growV 2 o [] [(3, .int .i64 0)] 56) b ob
def pjSt (b : List UInt8) (ob : Option (List V)) : S := growV 4 ob [(0, .bytes b)] [] 56
abbrev pjI (b : List UInt8) (ob : Option (List V)) : Prop := (ob.getD []).length + b.length ≤ 1000000000000
def pjG0 : S → Option (Bool × Tr) := gOf 56 0 fun sl _ => match sl 0, sl 4 with
  | some (.bytes b), some .nils => some (decide (pjI b none), pjT b none)
  | _, _ => none
def pjG1 : S → Option (Bool × Tr) := gOf 56 1 fun sl hp => match sl 0, sl 4, hp 0 with
  | some (.bytes b), some (.own 0 m (.agg [.int .i64, .bytes])), some (.row T (.agg [.int .i64, .bytes]) (.rows (.agg [.int .i64, .bytes]) L)) => some (decide (m = L.length ∧ T = 170 ∧ pjI b (some L)), pjT b (some L))
  | _, _, _ => none
noncomputable def af_tlvParse : AF := afOf Try.prog Try.f175 [.jmp 0 [0, 4] [] (orG pjG0 pjG1)]
noncomputable def pjC : AC := (af_tlvParse.ac.jmps.headD (.skip, .skip, 0, [], fun _ => none)).1
noncomputable def pjR : AC := (af_tlvParse.ac.jmps.headD (.skip, .skip, 0, [], fun _ => none)).2.1
noncomputable def GEtvf : List (Nat × Con) := [(69, .val [.bytes] cClone)]
theorem GEtvf_ok : GOk Try.prog GEtvf := .cons (enters_of Try.func69 (by kernel_rfl) rfl) Clone_con <| .nil
noncomputable def IEtvf : List (Nat × AF) := []
theorem IEtvf_ok : IOk Try.prog IEtvf := .nil
noncomputable def CEtvf : List (Nat × (List Nat × (S → Option S))) := []
theorem CEtvf_ok : COk Try.prog CEtvf := .nil
noncomputable def XEtvf : List (Nat × (List Sh × (List V → PT))) := []
theorem XEtvf_ok : XOk Try.prog XEtvf := .nil
noncomputable def Etvf : Env := ⟨Try.prog, GEtvf, IEtvf, CEtvf, XEtvf⟩
theorem Etvf_ok : EnvOk Etvf := ⟨by kernel_rfl, GEtvf_ok, IEtvf_ok, CEtvf_ok, XEtvf_ok⟩
def wrE (b : List UInt8) : Int := IntKind.i64.wrap (2 + IntKind.i64.wrap (gt b 1))
def prP (b : List UInt8) : V := .agg [.int .i64 (IntKind.i64.wrap (gt b 0)), .bytes (cutL b 2 (wrE b).toNat)]
theorem tlvParse_b (b : List UInt8) (ob : Option (List V)) : aev Etvf (inlN Etvf 6) pjR (jumpK 0 [0, 4] [2, 3] []) (pjSt b ob) =
    bif (b.length : Int) == 0 then some (.ret, growV 2 ob [] [(3, .int .i64 0)] 56) else
    bif andT true (inB 0 b.length) then
      bif gt b 0 == 0 then bif andT true (Am.inC 1 b.length) then some (.goto 0, pjSt (cutL b 1 b.length) ob) else none else
      bif decide ((b.length : Int) < 2) then some (.ret, growV 2 none [] [(3, .int .i64 3)] 56) else
      bif andT true (inB 1 b.length) then
        bif decide (IntKind.i64.wrap (gt b 1) > IntKind.i64.wrap ((b.length : Int) - 2)) then some (.ret, growV 2 none [] [(3, .int .i64 3)] 56) else
        bif andT true (inB 1 b.length) then bif andT true (inB 0 b.length) then
          bif gt b 0 != 4 then
            bif andT (andT (andT (andT true (inB 0 b.length)) (Am.inC 2 (wrE b).toNat && Am.inC (wrE b) b.length)) (decide ((cutL b 2 (wrE b).toNat).length ≤ 140737488355328))) (((ob.getD [] ++ [prP b]).length * 32).ble 140737488355328) && true then
              bif andT true (Am.inC (wrE b) b.length) then some (.goto 0, pjSt (cutL b (wrE b).toNat b.length) (some (ob.getD [] ++ [prP b]))) else none
            else none
          else bif andT true (Am.inC (wrE b) b.length) then some (.goto 0, pjSt (cutL b (wrE b).toNat b.length) ob) else none
        else none else none
      else none
    else none := by
  cases ob <;> kernel_rfl
structure PjS where
  (b : List UInt8)
  (ob : Option (List V))
theorem pj_jump : JumpOk Try.prog pjC.erase 0 [] (orG pjG0 pjG1) := by
  refine jump_ok Etvf_ok (d := 6) (rest := pjR) (by kernel_rfl) (AC.flat_ok (by kernel_rfl)) [0, 4] [2, 3] [] (orG pjG0 pjG1) (X := PjS) (fun x => pjSt x.b x.ob) (fun x => pjT x.b x.ob) (fun x => pjI x.b x.ob) (fun x => x.b.length) ?_ ?_
  · intro s t h
    rcases orG_spec h with h | h
    · obtain ⟨h1, h2, h3, h⟩ := gOf_spec h
      split at h
      · rename_i b q1 q2
        injection h with h; injection h with hc ht
        exact ⟨⟨b, none⟩, .one h1 h2 (by simp [q1, q2]) (by simp), of_decide_eq_true hc, ht.symm⟩
      · cases h
    · obtain ⟨h1, h2, h3, h⟩ := gOf_spec h
      split at h
      · rename_i b m T L q1 q2 q3
        injection h with h; injection h with hc ht
        obtain ⟨c1, c2, c3⟩ := of_decide_eq_true hc
        subst c1; subst c2
        exact ⟨⟨b, some L⟩, .one h1 h2 (by simp [q1, q2]) (by simp [q3]), c3, ht.symm⟩
      · cases h
  · rintro ⟨b, ob⟩ hI
    simp only at hI ⊢
    rw [tlvParse_b]
    by_cases h0 : b.length = 0
    · refine .inr ⟨.ret, growV 2 ob [] [(3, .int .i64 0)] 56, ?_, nofun, pj_end (by have := parse_end (l := b) (i := 0) (by omega); rwa [List.drop_zero] at this) ob⟩
      simp (disch := omega) only [dec_t, dec_f, inB_t, inC_t, andT_t, cond_true, cond_false, Bool.and_true, Bool.true_and, w64, wu32, wu8, nble_t, nblt_t, Bool.not_true, Bool.not_false, Bool.not_not, ieq_t, ieq_f, ine_t, ine_f, true_and, and_true, andT_l]
    · have g0 := gt_lo b 0
      have g1 := gt_hi b 0
      have g2 := gt_lo b 1
      have g3 := gt_hi b 1
      by_cases hz : gt b 0 = 0
      · have e : parse b = parse (b.drop 1) := by have := parse_zero (l := b) (i := 0) (by omega) hz; rwa [List.drop_zero] at this
        refine .inl ⟨⟨b.drop 1, ob⟩, ?_, ?_, ?_, leaf_eq (pj_same e ob)⟩
        · rw [← cutL_all]
          simp (disch := omega) only [dec_t, dec_f, inB_t, inC_t, andT_t, cond_true, cond_false, Bool.and_true, Bool.true_and, w64, wu32, wu8, nble_t, nblt_t, Bool.not_true, Bool.not_false, Bool.not_not, ieq_t, ieq_f, ine_t, ine_f, true_and, and_true, andT_l]
        · show (ob.getD []).length + (b.drop 1).length ≤ _
          rw [List.length_drop]
          omega
        · show (b.drop 1).length < b.length
          rw [List.length_drop]
          omega
      · by_cases h1 : b.length = 1
        · refine .inr ⟨.ret, growV 2 none [] [(3, .int .i64 3)] 56, ?_, nofun, pj_no (by have := parse_one (l := b) (i := 0) (by omega) hz; rwa [List.drop_zero] at this) ob⟩
          simp (disch := omega) only [dec_t, dec_f, inB_t, inC_t, andT_t, cond_true, cond_false, Bool.and_true, Bool.true_and, w64, wu32, wu8, nble_t, nblt_t, Bool.not_true, Bool.not_false, Bool.not_not, ieq_t, ieq_f, ine_t, ine_f, true_and, and_true, andT_l]
        · by_cases hs : (b.length : Int) - 2 < gt b 1
          · refine .inr ⟨.ret, growV 2 none [] [(3, .int .i64 3)] 56, ?_, nofun, pj_no (by have := parse_short (l := b) (i := 0) (by omega) hz (by simpa using hs); rwa [List.drop_zero] at this) ob⟩
            simp (disch := omega) only [dec_t, dec_f, inB_t, inC_t, andT_t, cond_true, cond_false, Bool.and_true, Bool.true_and, w64, wu32, wu8, nble_t, nblt_t, Bool.not_true, Bool.not_false, Bool.not_not, ieq_t, ieq_f, ine_t, ine_f, true_and, and_true, andT_l]
          · have hp := parse_part (l := b) (i := 0) (by omega) hz (by simpa using hs)
            obtain ⟨k, hk⟩ := Int.eq_ofNat_of_zero_le g2
            simp only [List.drop_zero, Nat.zero_add, hk, Int.toNat_natCast] at hp
            have hE : wrE b = ((2 + k : Nat) : Int) := by unfold wrE; simp (disch := omega) only [hk, w64]; omega
            rw [hE, Int.toNat_natCast]
            have hdl : (b.drop (2 + k)).length = b.length - (2 + k) := List.length_drop
            by_cases h4 : gt b 0 = 4
            · rw [if_pos h4] at hp
              refine .inl ⟨⟨b.drop (2 + k), ob⟩, ?_, ?_, ?_, leaf_eq (pj_same hp ob)⟩
              · rw [← cutL_all b (2 + k)]
                simp (disch := omega) only [dec_t, dec_f, inB_t, inC_t, andT_t, cond_true, cond_false, Bool.and_true, Bool.true_and, w64, wu32, wu8, nble_t, nblt_t, Bool.not_true, Bool.not_false, Bool.not_not, ieq_t, ieq_f, ine_t, ine_f, true_and, and_true, andT_l]
              · show (ob.getD []).length + (b.drop (2 + k)).length ≤ _
                omega
              · show (b.drop (2 + k)).length < b.length
                omega
            · rw [if_neg h4] at hp
              have hP : prP b = tlV (gt b 0, (b.drop 2).take k) := by
                unfold prP tlV
                simp (disch := omega) only [hE, w64, Int.toNat_natCast]
                simp only [cutL]
                rw [show 2 + k - 2 = k by omega]
              have hc : (cutL b 2 (2 + k)).length = k := by rw [cutL_len (by omega)]; omega
              have hl : (ob.getD [] ++ [prP b]).length = (ob.getD []).length + 1 := by simp
              rw [hP] at hl ⊢
              refine .inl ⟨⟨b.drop (2 + k), some (ob.getD [] ++ [tlV (gt b 0, (b.drop 2).take k)])⟩, ?_, ?_, ?_, pj_part hp ob⟩
              · rw [← cutL_all b (2 + k)]
                simp (disch := omega) only [dec_t, dec_f, inB_t, inC_t, andT_t, cond_true, cond_false, Bool.and_true, Bool.true_and, w64, wu32, wu8, nble_t, nblt_t, Bool.not_true, Bool.not_false, Bool.not_not, ieq_t, ieq_f, ine_t, ine_f, true_and, and_true, andT_l]
              · show (ob.getD [] ++ [tlV (gt b 0, (b.drop 2).take k)]).length + (b.drop (2 + k)).length ≤ _
                omega
              · show (b.drop (2 + k)).length < b.length
                omega
theorem af_tlvParse_ok : AllOk Try.prog 175 af_tlvParse := .sums Try.func175 (by kernel_rfl) (by kernel_rfl) (by kernel_rfl) (by kernel_rfl) (jmps_one (c := pjC) (rest := pjR) (by kernel_rfl) (by kernel_rfl) pj_jump)
def peI (p : Option (List (Int × List UInt8))) : Int := if p.isNone then 3 else 0
def tvR (l : List V) (e : Int) : V := .tup [.ownv 170 (.rows (.agg [.int .i64, .bytes]) l), .int .i64 e]
def tvD (b : List UInt8) : Option (List V) → Bool
  | none => decide (pjI b none)
  | some L => decide (L.length = L.length ∧ (170 : TypeId) = 170 ∧ pjI b (some L))
/-- what comes of the rest of the bytes -/
def tvF (b : List UInt8) (ob : Option (List V)) : Option V := bif tvD b ob then bif noV (parse b) then some (tvR [] 3) else bif ob.isNone && emV (paV (parse b)) then some (tvR [] 0) else some (tvR (ob.getD [] ++ paV (parse b)) 0) else none
def tvO (p : Option (List (Int × List UInt8))) (ob : Option (List V)) : V := tvR (if p.isNone then [] else ob.getD [] ++ paV p) (peI p)
theorem tvF_ok {b : List UInt8} {ob : Option (List V)} (h : pjI b ob) : tvF b ob = some (tvO (parse b) ob) := by
  unfold tvF
  rw [show tvD b ob = true by
    cases ob with
    | none => exact decide_eq_true h
    | some L => exact decide_eq_true ⟨rfl, rfl, h⟩, cond_true]
  cases hp : parse b with
  | none => rfl
  | some r => cases ob with
    | none => cases r <;> rfl
    | some L => rfl
theorem tvO_part (p : Int × List UInt8) (q : Option (List (Int × List UInt8))) : tvO q (some [tlV p]) = tvO (q.map (p :: ·)) none := by
  cases q <;> rfl
theorem tvO_none (q : Option (List (Int × List UInt8))) : tvO q none = tvR (paV q) (peI q) := by
  cases q <;> rfl
theorem tlvParse_t (b : List UInt8) : callV Etvf af_tlvParse [.bytes b] =
    bif (b.length : Int) == 0 then some (tvR [] 0) else
    bif andT true (inB 0 b.length) then
      bif gt b 0 == 0 then bif andT true (Am.inC 1 b.length) then tvF (cutL b 1 b.length) none else none else
      bif decide ((b.length : Int) < 2) then some (tvR [] 3) else
      bif andT true (inB 1 b.length) then
        bif decide (IntKind.i64.wrap (gt b 1) > IntKind.i64.wrap ((b.length : Int) - 2)) then some (tvR [] 3) else
        bif andT true (inB 1 b.length) then bif andT true (inB 0 b.length) then
          bif gt b 0 != 4 then
            bif andT (andT (andT (andT true (inB 0 b.length)) (Am.inC 2 (wrE b).toNat && Am.inC (wrE b) b.length)) (decide ((cutL b 2 (wrE b).toNat).length ≤ 140737488355328))) (([prP b].length * 32).ble 140737488355328) && true then
              bif andT true (Am.inC (wrE b) b.length) then tvF (cutL b (wrE b).toNat b.length) (some [prP b]) else none
            else none
          else bif andT true (Am.inC (wrE b) b.length) then tvF (cutL b (wrE b).toNat b.length) none else none
        else none else none
      else none
    else none := by kernel_rfl
theorem tlvParse_v (b : List UInt8) (h : b.length ≤ 1000000000) : callV Etvf af_tlvParse [.bytes b] = some (tvR (paV (parse b)) (peI (parse b))) := by
  rw [tlvParse_t, ← tvO_none]
  by_cases h0 : b.length = 0
  · have e := parse_end (l := b) (i := 0) (by omega)
    rw [List.drop_zero] at e
    rw [e]
    simp (disch := omega) only [dec_t, dec_f, inB_t, inC_t, andT_t, cond_true, cond_false, Bool.and_true, Bool.true_and, w64, wu32, wu8, nble_t, nblt_t, Bool.not_true, Bool.not_false, Bool.not_not, ieq_t, ieq_f, ine_t, ine_f, true_and, and_true, andT_l]
    rfl
  · have g0 := gt_lo b 0
    have g1 := gt_hi b 0
    have g2 := gt_lo b 1
    have g3 := gt_hi b 1
    by_cases hz : gt b 0 = 0
    · have e : parse b = parse (b.drop 1) := by have := parse_zero (l := b) (i := 0) (by omega) hz; rwa [List.drop_zero] at this
      have hdl : (b.drop 1).length = b.length - 1 := List.length_drop
      rw [e, cutL_all b 1, tvF_ok (b := b.drop 1) (ob := none) (by show 0 + (b.drop 1).length ≤ _; omega)]
      simp (disch := omega) only [dec_t, dec_f, inB_t, inC_t, andT_t, cond_true, cond_false, Bool.and_true, Bool.true_and, w64, wu32, wu8, nble_t, nblt_t, Bool.not_true, Bool.not_false, Bool.not_not, ieq_t, ieq_f, ine_t, ine_f, true_and, and_true, andT_l]
    · by_cases h1 : b.length = 1
      · have e : parse b = none := by have := parse_one (l := b) (i := 0) (by omega) hz; rwa [List.drop_zero] at this
        rw [e]
        simp (disch := omega) only [dec_t, dec_f, inB_t, inC_t, andT_t, cond_true, cond_false, Bool.and_true, Bool.true_and, w64, wu32, wu8, nble_t, nblt_t, Bool.not_true, Bool.not_false, Bool.not_not, ieq_t, ieq_f, ine_t, ine_f, true_and, and_true, andT_l]
        rfl
      · by_cases hs : (b.length : Int) - 2 < gt b 1
        · have e : parse b = none := by have := parse_short (l := b) (i := 0) (by omega) hz (by simpa using hs); rwa [List.drop_zero] at this
          rw [e]
          simp (disch := omega) only [dec_t, dec_f, inB_t, inC_t, andT_t, cond_true, cond_false, Bool.and_true, Bool.true_and, w64, wu32, wu8, nble_t, nblt_t, Bool.not_true, Bool.not_false, Bool.not_not, ieq_t, ieq_f, ine_t, ine_f, true_and, and_true, andT_l]
          rfl
        · have hp := parse_part (l := b) (i := 0) (by omega) hz (by simpa using hs)
          obtain ⟨k, hk⟩ := Int.eq_ofNat_of_zero_le g2
          simp only [List.drop_zero, Nat.zero_add, hk, Int.toNat_natCast] at hp
          have hE : wrE b = ((2 + k : Nat) : Int) := by unfold wrE; simp (disch := omega) only [hk, w64]; omega
          rw [hE, Int.toNat_natCast, cutL_all b (2 + k)]
          have hdl : (b.drop (2 + k)).length = b.length - (2 + k) := List.length_drop
          by_cases h4 : gt b 0 = 4
          · rw [if_pos h4] at hp
            rw [hp, tvF_ok (b := b.drop (2 + k)) (ob := none) (by show 0 + (b.drop (2 + k)).length ≤ _; omega)]
            simp (disch := omega) only [dec_t, dec_f, inB_t, inC_t, andT_t, cond_true, cond_false, Bool.and_true, Bool.true_and, w64, wu32, wu8, nble_t, nblt_t, Bool.not_true, Bool.not_false, Bool.not_not, ieq_t, ieq_f, ine_t, ine_f, true_and, and_true, andT_l]
          · rw [if_neg h4] at hp
            have hP : prP b = tlV (gt b 0, (b.drop 2).take k) := by
              unfold prP tlV
              simp (disch := omega) only [hE, w64, Int.toNat_natCast]
              simp only [cutL]
              rw [show 2 + k - 2 = k by omega]
            have hc : (cutL b 2 (2 + k)).length = k := by rw [cutL_len (by omega)]; omega
            rw [hP, hp, tvF_ok (b := b.drop (2 + k)) (ob := some [tlV (gt b 0, (b.drop 2).take k)]) (by show 1 + (b.drop (2 + k)).length ≤ _; omega), tvO_part]
            have hl : [tlV (gt b 0, (b.drop 2).take k)].length = 1 := rfl
            simp (disch := omega) only [dec_t, dec_f, inB_t, inC_t, andT_t, cond_true, cond_false, Bool.and_true, Bool.true_and, w64, wu32, wu8, nble_t, nblt_t, Bool.not_true, Bool.not_false, Bool.not_not, ieq_t, ieq_f, ine_t, ine_f, true_and, and_true, andT_l]
def cTlvParse : List V → Option (V × Bool)
  | [.bytes b] => some (tvR (paV (parse b)) (peI (parse b)), decide (b.length ≤ 1000000000))
  | _ => none
theorem tlvParse_con : ∀ vs v, cTlvParse vs = some (v, true) → SpecV Try.prog 175 vs v := by
  intro vs v h; unfold cTlvParse at h; split at h
  · rename_i b
    injection h with h; injection h with h hb; subst h
    exact callV_ok Etvf_ok af_tlvParse_ok (tlvParse_v b (of_decide_eq_true hb))
  · cases h
end Go.Proofs.Ytbojofchpnfnlaa

namespace Go.Proofs.Ytbojofchpnfnlaa
open Go Go.Am Go.RowKit Go.Mix Go.Bas
set_option maxRecDepth 100000
end Go.Proofs.Ytbojofchpnfnlaa

namespace Go.Proofs.Ytbojofchpnfnlaa
open Go Go.Am Go.RowKit Go.Mix Go.Bas
set_option maxRecDepth 100000
open Classical in
noncomputable def eqV (l m : List V) : Bool := decide (l = m)
end Go.Proofs.Ytbojofchpnfnlaa
