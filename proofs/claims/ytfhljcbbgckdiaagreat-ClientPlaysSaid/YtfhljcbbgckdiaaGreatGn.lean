/- Part Gn of the proof: laws used by the law of this claim. -/
import Derived.Maps.OwnSet
import Derived.RangeFuncNested
import Derived.RangeFuncBound
import Derived.RangeFuncCalls
import Derived.RangeFuncLeaves
import Derived.WalkKit
import Derived.OwnWalkIn
import Derived.TacticsInMore
import Derived.LoopNIn
import Derived.LoopIn
import Derived.Test.YtfhljcbbgckdiaaGreatGd
import Derived.Test.YtfhljcbbgckdiaaGreatGa
import Derived.Test.YtfhljcbbgckdiaaGreatGe
import Derived.Test.YtfhljcbbgckdiaaGreatGf
import Derived.Test.YtfhljcbbgckdiaaGreatGg
set_option linter.all false
namespace Go.Proofs.YtfhljcbbgckdiaaGreat
open Go Go.RowKit Go.Mix Go.Bas
abbrev iK (n : Int) : Lit := .int .i64 n
abbrev iD (n : Int) : DataW Unit := .lit (.int .i64 n)
def lenD : DataW Unit := (((((DataW.map []).put (iK 1) (iD 0)).put (iK 2) (iD 2)).put (iK 3) (iD 1)).put (iK 4) (iD 0)).put (iK 8) (iD 8)
theorem kInt : Go.Maps.Keyed Tryz.prog 3 := Go.Maps.int_keyed Tryz.underlying3
theorem key_int (n : Int) (h : (Lit.int .i64 n).wf = true) : keyOf Tryz.prog 3 (.int .i64 n) = some (iK n) := Go.Maps.keyOf_int_mk Tryz.underlying3 h
set_option maxRecDepth 8000 in
set_option maxHeartbeats 1000000 in
theorem lengths_calls (w : World) : Calls Tryz.prog 153 #[] w fun e w' => e = .returned (.map (some w.heap.size)) ∧ w'.ownsMap Tryz.prog 3 (plainElem Tryz.prog 3) w.heap.size 5 lenD ∧ Below w.heap.size w w' := by
 have hmm := @run_makeMap Tryz.prog
 have o0 := World.ownsMap_made w Tryz.prog 3 (plainElem (H := Unit) Tryz.prog 3)
 have ht := Tryz.underlying232
 obtain ⟨w1, r1, o1, g1⟩ := o0.update kInt ht (by decide) (key_int 1 (by decide)) (plainElem_int Tryz.underlying3 (show (Lit.int .i64 0).wf = true by decide))
 obtain ⟨w2, r2, o2, g2⟩ := o1.update kInt ht (by decide) (key_int 2 (by decide)) (plainElem_int Tryz.underlying3 (show (Lit.int .i64 2).wf = true by decide))
 obtain ⟨w3, r3, o3, g3⟩ := o2.update kInt ht (by decide) (key_int 3 (by decide)) (plainElem_int Tryz.underlying3 (show (Lit.int .i64 1).wf = true by decide))
 obtain ⟨w4, r4, o4, g4⟩ := o3.update kInt ht (by decide) (key_int 4 (by decide)) (plainElem_int Tryz.underlying3 (show (Lit.int .i64 0).wf = true by decide))
 obtain ⟨w5, r5, o5, g5⟩ := o4.update kInt ht (by decide) (key_int 8 (by decide)) (plainElem_int Tryz.underlying3 (show (Lit.int .i64 8).wf = true by decide))
 have hb : Below w.heap.size w w5 := by
  have e : ∀ k, some w.heap.size = some k → w.heap.size ≤ k := fun k h => by injection h with h; omega
  have b0 := (Below.refl w.heap.size w).alloc (Nat.le_refl _) (.map #[] 0)
  have b1 := b0.grown g1 b0.size e
  have b2 := b1.grown g2 b1.size e
  have b3 := b2.grown g3 b2.size e
  have b4 := b3.grown g4 b3.size e
  exact b4.grown g5 b4.size e
 have HB := hid hb
 have HO := hid o5
 clear o0 o1 o2 o3 o4 o5 g1 g2 g3 g4 g5 hb ht
 go_enter Tryz.func153, Tryz.ntmps153
 go_wp2
 go_ret
 exact ⟨rfl, HO.out, HB.out⟩
def fitB (k : Int) (n : Nat) : Bool := if k = 1 ∨ k = 4 then decide (n = 0) else if k = 2 then decide (n = 2) else if k = 3 then decide (n = 1) else if k = 8 then decide (n = 8) else true
def lenV (k : Int) : Int := if k = 2 then 2 else if k = 3 then 1 else if k = 8 then 8 else 0
def lenH (k : Int) : Bool := decide (k = 1 ∨ k = 2 ∨ k = 3 ∨ k = 4 ∨ k = 8)
theorem lenD_at (k : Int) : lenD.atKey (iK k) (iD 0) = iD (lenV k) ∧ Maps.has lenD (iK k) = lenH k := by
 have e : lenD = .map [(iK 1, iD 0), (iK 2, iD 2), (iK 3, iD 1), (iK 4, iD 0), (iK 8, iD 8)] := rfl
 rw [e]
 have h0 : ∀ n : Int, (iK n).sameKey (iK k) = decide (n = k) := by
  intro n
  simp [Lit.sameKey, iK]
 constructor
 ·simp only [DataW.atKey, h0, List.find?]
  by_cases h1 : 1 = k
  ·subst h1; rfl
  by_cases h2 : 2 = k
  ·subst h2; rfl
  by_cases h3 : 3 = k
  ·subst h3; rfl
  by_cases h4 : 4 = k
  ·subst h4; rfl
  by_cases h8 : 8 = k
  ·subst h8; rfl
  simp only [decide_eq_false h1, decide_eq_false h2, decide_eq_false h3, decide_eq_false h4, decide_eq_false h8]
  unfold lenV
  rw [if_neg (by omega), if_neg (by omega), if_neg (by omega)]
 ·rw [Go.Maps.has_eq]
  simp only [List.any_cons, List.any_nil, h0, Bool.or_false]
  unfold lenH
  rw [Bool.eq_iff_iff]
  simp only [Bool.or_eq_true, decide_eq_true_eq]
  omega
theorem eqn (a n : Nat) : ((a : Int) == (n : Int)) = decide (n = a) := by
 rw [Bool.eq_iff_iff]
 simp
 omega
theorem fitB_eq (k : Int) (n : Nat) : (!(lenH k) || (lenV k == (n : Int))) = fitB k n := by
 unfold lenH lenV fitB
 by_cases h1 : k = 1
 ·subst h1; exact eqn 0 n
 by_cases h2 : k = 2
 ·subst h2; exact eqn 2 n
 by_cases h3 : k = 3
 ·subst h3; exact eqn 1 n
 by_cases h4 : k = 4
 ·subst h4; exact eqn 0 n
 by_cases h8 : k = 8
 ·subst h8; exact eqn 8 n
 simp [h1, h2, h3, h4, h8]
set_option maxRecDepth 100000 in
theorem look_len {w : World} {b n : Nat} (h : w.ownsMap Tryz.prog 3 (plainElem (H := Unit) Tryz.prog 3) b n lenD) (k : Int) (hk : (Lit.int .i64 k).wf = true) :
  (Instr.lookup 232 (.map (some b)) (.int .i64 k) true).run Tryz.prog w = .ok (.tuple #[.int .i64 (lenV k), .bool (lenH k)]) w := by
 obtain ⟨v, ps, hrun, hv⟩ := h.look_ok kInt Tryz.underlying232 (Tryz.zeroValue3 w) (plainElem_int Tryz.underlying3 (show (Lit.int .i64 0).wf = true by decide)) (key_int k hk)
 obtain ⟨c, rfl, hc, hwc⟩ := plainElem_int_inv Tryz.underlying3 hv
 have e := (lenD_at k).1
 have hc1 := congrArg Prod.fst hc
 simp only at hc1
 rw [e] at hc1
 injection hc1 with hc1; injection hc1 with _ hc1
 subst hc1
 rw [hrun, (lenD_at k).2]
set_option maxRecDepth 8000 in
set_option maxHeartbeats 1000000 in
theorem fits_calls (k : Int) (A : Option Addr) (n c : Nat) (w : World) (hk : (Lit.int .i64 k).wf = true) : Calls Tryz.prog 147 #[.agg #[.int .i64 k, .slice A n c]] w fun e w' => e = .returned (.bool (fitB k n)) ∧ Below w.heap.size w w' := by
 go_enter Tryz.func147, Tryz.ntmps147
 go_wp2_with fail
 refine wp_name ?_; intro w2 hw2
 have hM : Blk w2 w.heap.size 181 [.int .i64 k, .slice A n c] := by rw [hw2]; exact Blk.new _ _ _
 have hb2 : Below w.heap.size w w2 := by rw [hw2]; exact (Below.refl _ _).alloc (Nat.le_refl _) _
 have hl2 := hM.lt
 clear hw2
 have hne : Nonempty (SBW w2.heap.size w2) := Cls.ne (SB.refl (Nat.le_refl _))
 have hq := SB.start (B := w2.heap.size) (w0 := w2) (Nat.le_refl _)
 have f0 : ∀ u : SBW w2.heap.size w2, u.w.cell? ⟨w.heap.size, 0, none⟩ = some (.int .i64 k) := fun u => u.cell (hM.cell (j := 0) rfl) hl2
 have f1 : ∀ u : SBW w2.heap.size w2, u.w.cell? ⟨w.heap.size, 1, none⟩ = some (.slice A n c) := fun u => u.cell (hM.cell (j := 1) rfl) hl2
 have HM := hid hM
 have HB2 := hid hb2
 clear hM hb2
 refine wp_region_segs (fun wq => ∃ u : SBW (w2.heap.size) (w2), wq = u.w) ((1, 0) :: (2, 0) :: (0, 1) :: (3, 1) :: (4, 0) :: (5, 0) :: (6, 0) :: (7, 0) :: (8, 0) :: []) (by kernel_rfl) (by kernel_rfl) (by kernel_rfl) (by kernel_rfl) (inC hq) ?_
 refine seg_held _ rfl ?_; go_big_quiet_step (fail); refine wpQuiet_nil ?_ -- 1 fieldAddr
 refine seg_held _ rfl ?_; go_big_quiet_step (fail); refine wpQuiet_nil ?_ -- 2 load
 refine seg_loud _ rfl rfl ?_; intro K hK -- 0 call harrier/topt.lengths
 go_wp2_with fail
 refine (lengths_calls _).mono ?_
 rintro e w3 ⟨rfl, ho3, hb3⟩
 have hq3 := hq.step hb3
 go_wp2_with fail
 refine ⟨fun wq => ∃ u : SBW (w3).heap.size w3, wq = u.w, subC (fun _ h => (hq3).sub (hq3).2 h), inC (SB.refl (Nat.le_refl _)), ?_⟩
 clear hne
 have hne : Nonempty (SBW (w3).heap.size w3) := Cls.ne (SB.refl (Nat.le_refl _))
 have fl : (Instr.lookup 232 (.map (some w2.heap.size)) (.int .i64 k) true).run Tryz.prog w3 = .ok (.tuple #[.int .i64 (lenV k), .bool (lenH k)]) w3 := look_len ho3 k hk
 refine seg_loud _ rfl rfl ?_; intro K hK -- 3 lookup
 go_wp2_with fail
 refine ⟨_, fun _ h => h, inC (by repeat (first | with_reducible assumption | with_reducible refine SB.drew ?_ | with_reducible refine SB.set ?_ (by first | exact Nat.le_refl _ | omega | (simp; omega)) _ | with_reducible refine SB.alloc ?_ _ | with_reducible refine sb_sets ?_ (by first | exact Nat.le_refl _ | omega | (simp; omega)) _ _ | with_reducible exact SB.refl (by omega))), ?_⟩
 refine seg_held _ rfl ?_; go_big_quiet_step (fail); refine wpQuiet_nil ?_ -- 4 move
 refine seg_held _ rfl ?_; go_big_quiet_step (fail); refine wpQuiet_nil ?_ -- 5 extract
 refine seg_held _ rfl ?_; go_big_quiet_step (fail); refine wpQuiet_nil ?_ -- 6 extract
 refine seg_held _ rfl ?_; go_big_quiet_step (fail); refine wpQuiet_nil ?_ -- 7 assign
 refine seg_held _ rfl ?_; go_big_quiet_step (fail); refine wpQuiet_nil ?_ -- 8 assign
 refine seg_name ?_; intro w4 hw4
 rw [hw4]; clear hw4 w4
 have g1 : w3.cell? ⟨w.heap.size, 1, none⟩ = some (.slice A n c) := f1 ⟨w3, hq3⟩
 have HB4 : Hid (Below w.heap.size w w3) := hid (HB2.out.trans (hq3.1.mono (Nat.le_of_lt hl2)))
 have hfb := fitB_eq k n
 clear f0 f1 HM HB2 hq hb3 ho3 fl hne hq3 hl2
 cases hh : lenH k
 ·rw [hh] at hfb
  go_wp2
  go_ret
  exact ⟨by rw [← hfb]; rfl, HB4.out⟩
 ·rw [hh] at hfb
  go_wp2
  go_ret
  exact ⟨by rw [← hfb]; rfl, HB4.out⟩
end Go.Proofs.YtfhljcbbgckdiaaGreat
namespace Go.Proofs.YtfhljcbbgckdiaaGreat
open Go Go.Am Go.RowKit Go.Mix Go.Bas
theorem opt_inv {O : Nat → Prop} {w : World} {kd : Int} {body : List UInt8} {c : Value} (h : VRep no O w (.agg [.int .i64 kd, .bytes body]) c) :
  ∃ A n k, c = .agg #[.int .i64 kd, .slice A n k] ∧ Bs w A n k body := by
 obtain ⟨cs, rfl, hc⟩ := h.agg_inv rfl
 cases hc with
 | agg h1 =>
  cases h1 with
  | cons a h1 =>
   cases a
   cases h1 with
   | cons a h1 =>
    cases h1
    cases a with
    | bytes hb _ => exact ⟨_, _, _, rfl, hb⟩
def cFits : List V → Option (V × Bool)
 | [.agg [.int .i64 k, .bytes d]] => some (.bool (fitB k d.length), decide (0 ≤ k) && decide (k ≤ 255))
 | _ => none
theorem wf64 {k : Int} (h1 : 0 ≤ k) (h2 : k ≤ 255) : (Lit.int .i64 k).wf = true := by
 show (decide ((-9223372036854775808 : Int) ≤ k) && decide (k ≤ (9223372036854775807 : Int))) = true
 rw [decide_eq_true (by omega), decide_eq_true (by omega)]; rfl
theorem Fits_con : ∀ vs v, cFits vs = some (v, true) → SpecV Tryz.prog 147 vs v := by
 intro vs v h; unfold cFits at h; split at h
 ·rename_i k d
  injection h with h; injection h with h hb; subst h
  have hb : 0 ≤ k ∧ k ≤ 255 := by simpa using hb
  intro O w cs hO hv
  obtain ⟨a, rfl, ha⟩ := hv.one_inv
  obtain ⟨A, n, c, rfl, hA⟩ := opt_inv ha
  rw [← hA.len]
  exact kBelow (fits_calls _ _ _ _ _ (wf64 hb.1 hb.2)) (fun _ => OutRep.bool)
 ·cases h
set_option maxRecDepth 100000
noncomputable def af_toptOne : AF := afOf Tryz.prog Tryz.f185 []
theorem af_toptOne_ok : AllOk Tryz.prog 185 af_toptOne := .flat Tryz.func185 (by kernel_rfl) (by kernel_rfl) (by kernel_rfl) (by kernel_rfl) (by kernel_rfl)
noncomputable def GEtpb : List (Nat × Con) := [(121, .val [.bytes] cClone), (147, .val [.agg [.int .i64, .bytes]] cFits)]
theorem GEtpb_ok : GOk Tryz.prog GEtpb := .cons (enters_of Tryz.func121 (by kernel_rfl) rfl) Clone_con <| .cons (enters_of Tryz.func147 (by kernel_rfl) rfl) Fits_con <| .nil
noncomputable def IEtpb : List (Nat × AF) := []
theorem IEtpb_ok : IOk Tryz.prog IEtpb := .nil
noncomputable def CEtpb : List (Nat × (List Nat × (S → Option (Bool × Tr)))) := []
theorem CEtpb_ok : COk Tryz.prog CEtpb := .nil
noncomputable def XEtpb : List (Nat × (List Sh × (List V → PT))) := []
theorem XEtpb_ok : XOk Tryz.prog XEtpb := .nil
noncomputable def Etpb : Env := ⟨Tryz.prog, GEtpb, IEtpb, CEtpb, XEtpb, false⟩
theorem Etpb_ok : EnvOk Etpb := ⟨by kernel_rfl, GEtpb_ok, IEtpb_ok, CEtpb_ok, XEtpb_ok⟩
theorem toptOne_t (b : List UInt8) : callV Etpb af_toptOne [.bytes b] =
 bif andT true (inB (0 : Int) b.length) then
 bif IntKind.i64.wrap (gt b (0 : Nat)) == (1 : Int) then
 some
 (V.tup
 [V.agg [V.int IntKind.i64 (IntKind.i64.wrap (gt b (0 : Nat))), V.bytes []], V.int IntKind.i64 1,
 V.int IntKind.i64 0])
 else
 bif decide ((↑b.length : Int) < (2 : Int)) then
 some
 (V.tup
 [V.agg [V.int IntKind.i64 0, V.bytes []], V.int IntKind.i64 0, V.int IntKind.i64 3])
 else
 bif andT true (inB (1 : Int) b.length) then
 bif decide (IntKind.i64.wrap (gt b (1 : Nat)) < (2 : Int)) then
 some
 (V.tup
 [V.agg [V.int IntKind.i64 0, V.bytes []], V.int IntKind.i64 0,
 V.int IntKind.i64 5])
 else
 bif decide (IntKind.i64.wrap (gt b (1 : Nat)) > (↑b.length : Int)) then
 some
 (V.tup
 [V.agg [V.int IntKind.i64 0, V.bytes []], V.int IntKind.i64 0,
 V.int IntKind.i64 3])
 else
 bif
 andT
 (andT true
 (Am.inC (2 : Int) (IntKind.i64.wrap (gt b (1 : Nat))).toNat &&
 Am.inC (IntKind.i64.wrap (gt b (1 : Nat))) b.length))
 (decide
 ((cutL b (2 : Nat) (IntKind.i64.wrap (gt b (1 : Nat))).toNat).length ≤
 (140737488355328 : Nat))) then
 bif
 andT true
 (decide ((0 : Int) ≤ IntKind.i64.wrap (gt b (0 : Nat))) &&
 decide (IntKind.i64.wrap (gt b (0 : Nat)) ≤ (255 : Int))) then
 bif
 !fitB (IntKind.i64.wrap (gt b (0 : Nat)))
 (cutL b (2 : Nat) (IntKind.i64.wrap (gt b (1 : Nat))).toNat).length then
 some
 (V.tup
 [V.agg [V.int IntKind.i64 0, V.bytes []], V.int IntKind.i64 0,
 V.int IntKind.i64 5])
 else
 some
 (V.tup
 [V.agg
 [V.int IntKind.i64 (IntKind.i64.wrap (gt b (0 : Nat))),
 V.bytes (cutL b (2 : Nat) (IntKind.i64.wrap (gt b (1 : Nat))).toNat)],
 V.int IntKind.i64 (IntKind.i64.wrap (gt b (1 : Nat))), V.int IntKind.i64 0])
 else none
 else none
 else none
 else none := by kernel_rfl
def oneO (b : List UInt8) : (Int × List UInt8) × Int × Int :=
 if gt b 0 = 1 then ((1, []), 1, 0)
 else if b.length < 2 then ((0, []), 0, 3)
 else if gt b 1 < 2 then ((0, []), 0, 5)
 else if gt b 1 > b.length then ((0, []), 0, 3)
 else if fitB (gt b 0) ((gt b 1).toNat - 2) then ((gt b 0, (b.drop 2).take ((gt b 1).toNat - 2)), gt b 1, 0) else ((0, []), 0, 5)
def oneK (b : List UInt8) : Int := (oneO b).1.1
def oneD (b : List UInt8) : List UInt8 := (oneO b).1.2
def oneN (b : List UInt8) : Int := (oneO b).2.1
def oneE (b : List UInt8) : Int := (oneO b).2.2
theorem toptOne_v (b : List UInt8) (h0 : 0 < b.length) (h1 : b.length ≤ 140737488355328) : callV Etpb af_toptOne [.bytes b] = some (.tup [.agg [.int .i64 (oneK b), .bytes (oneD b)], .int .i64 (oneN b), .int .i64 (oneE b)]) := by
 rw [toptOne_t]
 unfold oneK oneD oneN oneE oneO
 have g0 := gt_lo b 0
 have g1 := gt_hi b 0
 have g2 := gt_lo b 1
 have g3 := gt_hi b 1
 by_cases k1 : gt b 0 = 1
 ·rw [if_pos k1]
  simp (disch := omega) only [tre]
  rw [k1]
 rw [if_neg k1]
 by_cases k2 : b.length < 2
 ·rw [if_pos k2]
  simp (disch := omega) only [tre]
 rw [if_neg k2]
 by_cases k3 : gt b 1 < 2
 ·rw [if_pos k3]
  simp (disch := omega) only [tre]
 rw [if_neg k3]
 by_cases k4 : gt b 1 > b.length
 ·rw [if_pos k4]
  simp (disch := omega) only [tre]
 rw [if_neg k4]
 obtain ⟨k, hk⟩ := Int.eq_ofNat_of_zero_le g2
 have hc : (cutL b 2 k).length = k - 2 := by rw [cutL_len (by omega)]
 rw [hk] at g3 k3 k4 ⊢
 simp only [Int.toNat_natCast]
 have hd : cutL b 2 k = (b.drop 2).take (k - 2) := rfl
 cases k5 : fitB (gt b 0) (k - 2) with
 | true =>
  rw [if_pos rfl]
  simp (disch := omega) only [tre]
  simp only [Int.toNat_natCast, hc, k5]
  simp (disch := omega) only [tre]
  rfl
 | false =>
  rw [if_neg (by simp)]
  simp (disch := omega) only [tre]
  simp only [Int.toNat_natCast, hc, k5]
  simp (disch := omega) only [tre]
def cOne : List V → Option (V × Bool)
 | [.bytes b] => some (.tup [.agg [.int .i64 (oneK b), .bytes (oneD b)], .int .i64 (oneN b), .int .i64 (oneE b)], decide (0 < b.length ∧ b.length ≤ 140737488355328))
 | _ => none
theorem toptOne_con : ∀ vs v, cOne vs = some (v, true) → SpecV Tryz.prog 185 vs v := by
 intro vs v h; unfold cOne at h; split at h
 ·rename_i b
  injection h with h; injection h with h hb; subst h
  exact callV_ok Etpb_ok af_toptOne_ok (toptOne_v b (of_decide_eq_true hb).1 (of_decide_eq_true hb).2)
 ·cases h
theorem one_calls {O : Nat → Prop} {w : World} {A : Option Addr} {n c : Nat} {b : List UInt8} (hO : OOk O w) (hb : Bs w A n c b) (ho : b ≠ [] → ∀ g off, A = some ⟨g, off, none⟩ → ¬ O g) (h0 : 0 < b.length) (h1 : b.length ≤ 140737488355328) :
  Calls Tryz.prog 185 #[.slice A n c] w fun e w' => Below w.heap.size w w' ∧ ∃ A' n' c', e = .returned (.tuple #[.agg #[.int .i64 (oneK b), .slice A' n' c'], .int .i64 (oneN b), .int .i64 (oneE b)]) ∧
   CRep no O w' (.agg [.int .i64 (oneK b), .bytes (oneD b)]) [.int .i64 (oneK b), .slice A' n' c'] := by
 refine (toptOne_con [.bytes b] (.tup [.agg [.int .i64 (oneK b), .bytes (oneD b)], .int .i64 (oneN b), .int .i64 (oneE b)]) (by show some (_, decide (0 < b.length ∧ b.length ≤ 140737488355328)) = _; rw [decide_eq_true (And.intro h0 h1)]) O w [.slice A n c] hO (.cons (.one (.bytes hb ho) rfl) .nil)).mono ?_
 rintro e w' ⟨hB, v, rfl, hr⟩
 refine ⟨hB, ?_⟩
 cases hr with
 | val h =>
  cases h with
  | one h ha => cases h
  | agg h ha => cases h
  | tup h =>
   cases h with
   | cons h1 h =>
    obtain ⟨cs, rfl, hc⟩ := h1.agg_inv rfl
    cases h with
    | cons h2 h =>
     obtain ⟨rfl, _⟩ := h2.int_inv
     cases h with
     | cons h3 h =>
      obtain ⟨rfl, _⟩ := h3.int_inv
      cases h
      have hc' := hc
      cases hc with
      | agg q =>
       cases q with
       | cons a q =>
        cases a
        cases q with
        | cons a q =>
         cases q
         cases a with
         | bytes hb _ => exact ⟨_, _, _, rfl, hc'⟩
end Go.Proofs.YtfhljcbbgckdiaaGreat
namespace Go.Bas
open Go Go.RowKit
theorem range_go {P : Program} {g : Operand} {ps : Array Tmp} {assign body : Code} {Q : Exit → Act → World → Prop} {a : Act} {w : World} {gf : Nat} {lb : Array Value} (hg : a.eval g = .func (.func gf) #[] lb) (eg : ∀ args w, (callFunc gf args).run P w = .ok (.enter gf args) w)
  (h : ∀ fn (rec : LoopState → Option Code → Loop), (rec = fun st pe => { state := st, pending := pe, fn, tmps := a.tmps, params := ps, assign, body, defers := w.heap.size }) → CallsIn Fence.wide 2 P gf (#[.func (.yield (w.heap.size + 1)) #[] #[]] ++ lb) ((w.alloc (.deferred (some []))).alloc (.loop (rec .ready none)))
   (rangePost Fence.wide 3 P (w.heap.size + 1) Q { a with defers := { target := .collected w.heap.size, args := #[] } :: a.defers })) : (Code.rangeFunc g ps assign body).wp P Q a w := by
 refine (wpIn_wide (n := 3)).1 ?_
 refine wpIn_rangeFunc ?_
 intro fn hfn
 have he := run_enterLoop_outer (P := P) (w := w) fn a.tmps ps assign body
 have hc := h fn _ rfl
 clear h
 generalize (w.alloc (.deferred (some []))).alloc (.loop { state := .ready, pending := none, fn, tmps := a.tmps, params := ps, assign, body, defers := w.heap.size }) = W2 at he hc
 refine ⟨w.heap.size + 1, [{ target := .collected w.heap.size, args := #[] }], W2, { target := .fn (.func gf) lb, args := #[.func (.yield (w.heap.size + 1)) #[] #[]] }, W2, gf, #[.func (.yield (w.heap.size + 1)) #[] #[]] ++ lb, W2, ?_, ?_, ?_, ?_, ?_, ?_⟩
 ·exact he
 rotate_left 3
 ·exact fun _ => by omega
 ·exact hc
 ·simp only [resolve, hg]
  simp [go_sem]
 ·intro f' hf'; trivial
 ·simp [invoke, go_sem, eg]
end Go.Bas
namespace Go.Proofs.YtfhljcbbgckdiaaGreat
open Go Go.Am Go.RowKit Go.Mix Go.Bas
attribute [local go_sem] Oper.semAt_some
set_option maxRecDepth 100000
theorem all_calls (A : Option Addr) (n c : Nat) (w : World) :
  Calls Tryz.prog 177 #[.slice A n c] w fun e w' => e = .returned (.func (.func 183) #[] #[.pointer (some ⟨w.heap.size, 0, none⟩)]) ∧ w' = w.alloc (.cells #[.slice A n c] 34) := by
 go_enter Tryz.func177, Tryz.ntmps177
 go_wp2
 go_ret
 exact ⟨rfl, rfl⟩
def jo (pre : List (Int × List UInt8)) (x : Int × List (Int × List UInt8)) : Int × List (Int × List UInt8) := if x.1 = 0 then (0, pre ++ x.2) else (x.1, [])
def parF : Nat → List UInt8 → Int × List (Int × List UInt8)
 | 0, _ => (0, [])
 | f + 1, b => if b.length = 0 then (0, []) else if gt b 0 = 0 then (if zeros b then (0, []) else (5, [])) else if oneE b ≠ 0 then (oneE b, []) else jo [(oneK b, oneD b)] (parF f (b.drop (oneN b).toNat))
theorem jo_nil (x : Int × List (Int × List UInt8)) (h : x.1 = 0 ∨ x.2 = []) : jo [] x = x := by
 obtain ⟨e, l⟩ := x
 unfold jo
 by_cases h0 : e = 0
 ·rw [if_pos h0]; simp [h0]
 ·rw [if_neg h0]
  rcases h with h | h
  ·exact absurd h h0
  ·simp only at h; rw [h]
theorem jo_jo (a b : List (Int × List UInt8)) (x : Int × List (Int × List UInt8)) : jo a (jo b x) = jo (a ++ b) x := by
 obtain ⟨e, l⟩ := x
 unfold jo
 by_cases h0 : e = 0
 ·simp [h0]
 ·simp [h0]
theorem oneE_no {b : List UInt8} (h : oneE b = 0) (h0 : 0 < b.length) : 1 ≤ oneN b ∧ oneN b ≤ b.length := by
 unfold oneE at h
 unfold oneN
 unfold oneO at h ⊢
 split
 ·simp; omega
 ·split
  ·simp_all
  ·split
   ·simp_all
   ·split
    ·simp_all
    ·split
     ·simp only at *; omega
     ·simp_all
theorem parF_more : ∀ (f g : Nat) (b : List UInt8), b.length < f → b.length < g → parF f b = parF g b
 | 0, _, _, h, _ => by omega
 | _ + 1, 0, _, _, h => by omega
 | f + 1, g + 1, b, h1, h2 => by
  unfold parF
  by_cases h0 : b.length = 0
  ·rw [if_pos h0, if_pos h0]
  rw [if_neg h0, if_neg h0]
  by_cases hz : gt b 0 = 0
  ·rw [if_pos hz, if_pos hz]
  rw [if_neg hz, if_neg hz]
  by_cases he : oneE b = 0
  ·rw [if_neg (by omega), if_neg (by omega)]
   have := oneE_no he (by omega)
   rw [parF_more f g _ (by rw [List.length_drop]; omega) (by rw [List.length_drop]; omega)]
  ·rw [if_pos he, if_pos he]
def parO (b : List UInt8) : Int × List (Int × List UInt8) := parF (b.length + 1) b
theorem parO_end {b : List UInt8} (h : b.length = 0) : parO b = (0, []) := by unfold parO parF; rw [if_pos h]
theorem parO_zero {b : List UInt8} (h : 0 < b.length) (h0 : gt b 0 = 0) : parO b = if zeros b then (0, []) else (5, []) := by unfold parO parF; rw [if_neg (by omega), if_pos h0]
theorem parO_err {b : List UInt8} (h : 0 < b.length) (h0 : ¬ gt b 0 = 0) (he : ¬ oneE b = 0) : parO b = (oneE b, []) := by unfold parO parF; rw [if_neg (by omega), if_neg h0, if_pos he]
theorem parO_one {b : List UInt8} (h : 0 < b.length) (h0 : ¬ gt b 0 = 0) (he : oneE b = 0) : parO b = jo [(oneK b, oneD b)] (parO (b.drop (oneN b).toNat)) := by
 have := oneE_no he h
 unfold parO
 rw [show parF (b.length + 1) b = jo [(oneK b, oneD b)] (parF b.length (b.drop (oneN b).toNat)) by
  show (if b.length = 0 then _ else _) = _
  rw [if_neg (by omega), if_neg h0, if_neg (by omega)]]
 rw [parF_more b.length ((b.drop (oneN b).toNat).length + 1) _ (by rw [List.length_drop]; omega) (by omega)]
theorem parF_no : ∀ (f : Nat) (b : List UInt8), (parF f b).1 = 0 ∨ (parF f b).2 = []
 | 0, _ => .inl rfl
 | f + 1, b => by
  unfold parF
  split
  ·exact .inl rfl
  ·split
   ·split
    ·exact .inl rfl
    ·exact .inr rfl
   ·split
    ·exact .inr rfl
    ·unfold jo
     split
     ·exact .inl rfl
     ·exact .inr rfl
theorem parO_no (b : List UInt8) : (parO b).1 = 0 ∨ (parO b).2 = [] := parF_no _ _
theorem Bs.low {w w1 w2 : World} {B g off n c : Nat} {l : List UInt8} (h : Bs w1 (some ⟨g, off, none⟩) n c l) (hg : g < B) (h1 : Below B w w1) (h2 : Below B w w2) (hB : g < w.heap.size) : Bs w2 (some ⟨g, off, none⟩) n c l :=
 ⟨h.len, h.cap, h.most, fun hne => by
  obtain ⟨g', off', e, _, hx⟩ := h.rd hne
  injection e with e
  injection e with e1 e2
  subst e1; subst e2
  exact ⟨g, off, rfl, Nat.lt_of_lt_of_le hB h2.size, fun j hj => by rw [h2.cell (p := ⟨g, off + j, none⟩) hg, ← h1.cell (p := ⟨g, off + j, none⟩) hg]; exact hx j hj⟩⟩
abbrev opV (k : Int) (A : Option Addr) (n c : Nat) : Value := .agg #[.int .i64 k, .slice A n c]
abbrev Osn (O : Nat → Prop) (w W : World) : Nat → Prop := fun g => O g ∨ (w.heap.size ≤ g ∧ g < W.heap.size)
abbrev lenOf : Value → Nat
 | .slice _ n _ => n
 | _ => 0
set_option maxRecDepth 8000 in
set_option maxHeartbeats 1000000 in
theorem iter_calls (O : Nat → Prop) (w : World) (L : Nat) (b : List UInt8) (J : List (Int × List UInt8) → World → Prop) (Jx : Int → World → Prop) (hO : OOk O w) (h40 : b.length ≤ 40)
  (hJs : ∀ pre W W', J pre W → Below W.heap.size W W' → J pre W') (hJb : ∀ pre W, J pre W → Below w.heap.size w W)
  (hR : ∀ pre Wc W k d A' n' c', J pre Wc → Below Wc.heap.size Wc W → CRep no (Osn O w Wc) W (.agg [.int .i64 k, .bytes d]) [.int .i64 k, .slice A' n' c'] → pre.length ≤ 40 →
   YieldAt Fence.wide 1 Tryz.prog L #[opV k A' n' c', .int .i64 0] W fun e W' => e = .returned (.bool true) ∧ J (pre ++ [(k, d)]) W')
  (hE : ∀ pre W k A' n' c' e, J pre W → e ≠ 0 → YieldAt Fence.wide 1 Tryz.prog L #[opV k A' n' c', .int .i64 e] W fun en W' => en = .returned (.bool false) ∧ Jx e W')
  (W0 : World) (h0 : J [] W0) (g : Nat) (A : Option Addr) (n c : Nat) (hg : W0.cell? ⟨g, 0, none⟩ = some (.slice A n c)) (hb : Bs W0 A n c b) (hA : b ≠ [] → ∀ g off, A = some ⟨g, off, none⟩ → ¬ O g ∧ g < w.heap.size) :
  CallsIn Fence.wide 2 Tryz.prog 183 #[.func (.yield L) #[] #[], .pointer (some ⟨g, 0, none⟩)] W0 fun e W' => (∃ v, e = .returned v) ∧ ((∃ l, parO b = (0, l) ∧ J l W') ∨ (∃ e, e ≠ 0 ∧ parO b = (e, []) ∧ Jx e W')) := by
 refine callsIn_of_wp Tryz.func183 rfl trivial ?_ rfl
 simp only [Tryz.ntmps183, List.size_toArray, List.length_cons, List.length_nil, Nat.reduceAdd, Nat.reduceSub, Array.replicate_succ, Array.replicate_zero, List.push_toArray, List.append_toArray, List.nil_append, List.cons_append]
 gi_wp2
 gi_loopw [3] (fun p wr => ∃ (pre : List (Int × List UInt8)) (l : List UInt8) (A : Option Addr) (n c : Nat), p = .slice A n c ∧ Bs wr A n c l ∧ (l ≠ [] → ∀ g off, A = some ⟨g, off, none⟩ → ¬ O g ∧ g < w.heap.size) ∧ J pre wr ∧ parO b = jo pre (parO l) ∧ l.length + pre.length ≤ 40)
  (fun p _ => lenOf p)
 case atStart => exact ⟨[], b, A, n, c, rfl, hb, hA, h0, (jo_nil _ (parO_no _)).symm, by simpa using h40⟩
 case round =>
  obtain ⟨pre, l, A1, n1, c1, rfl, hb1, hA1, hJ1, hp1, hl1⟩ := hrel
  obtain rfl : n1 = l.length := hb1.len
  by_cases hz : l.length = 0
  ·have hp := hp1
   rw [parO_end hz] at hp
   simp only [jo, if_true, List.append_nil] at hp
   gi_wp2
   go_end0
   exact ⟨⟨_, rfl⟩, .inl ⟨pre, hp, hJ1⟩⟩
  ·obtain ⟨g1, off1, rfl, hg1, hx1⟩ := hb1.at_ (by omega)
   have q0 := hx1 0 (by omega)
   rw [Nat.add_zero] at q0
   by_cases hz0 : gt l 0 = 0
   ·have hp := hp1
    rw [parO_zero (by omega) hz0] at hp
    rw [hz0] at q0
    cases hzs : zeros l with
    | true =>
     rw [hzs] at hp
     simp only [jo, if_true, List.append_nil] at hp
     gi_wp2
     refine ⟨trivial, (callsIn_wide.2 (Zeros_calls _ _ _ l _ hb1)).mono ?_⟩
     rw [hzs]; rintro e w' ⟨rfl, rfl⟩
     gi_wp2
     refine bodyPost_ret (results_none rfl _ _ _) rfl ?_
     exact ⟨⟨_, rfl⟩, .inl ⟨pre, hp, hJ1⟩⟩
    | false =>
     rw [hzs] at hp
     simp only [jo] at hp
     obtain ⟨fn, tmps, assign, body, hy, hRd⟩ := hE pre wr 0 none 0 0 5 hJ1 (by decide)
     gi_wp2
     refine ⟨trivial, (callsIn_wide.2 (Zeros_calls _ _ _ l _ hb1)).mono ?_⟩
     rw [hzs]; rintro e w' ⟨rfl, rfl⟩
     gi_wp2
     refine hRd.mono ?_
     rintro e W3 ⟨rfl, hJx3⟩
     gi_wp2
     refine bodyPost_ret (results_none rfl _ _ _) rfl ?_
     exact ⟨⟨_, rfl⟩, .inr ⟨5, by decide, hp, hJx3⟩⟩
   ·have q0 : wr.cell? ⟨g1, off1, none⟩ = some (.int .u8 (gt l 0)) := q0
    have hA2 : l ≠ [] → ∀ g off, some (⟨g1, off1, none⟩ : Addr) = some ⟨g, off, none⟩ → ¬ Osn O w wr g := fun hne g off e hc => by
     have := hA1 hne g off e
     rcases hc with hc | ⟨hc, _⟩
     ·exact this.1 hc
     ·omega
    have hbw := hJb _ _ hJ1
    have hsz := hbw.size
    have hone := one_calls (O := Osn O w wr) (w := wr) ⟨fun g hc => by
     rcases hc with hc | ⟨_, hc⟩
     ·have := hO.lt g hc; omega
     ·exact hc, hO.good.below hbw⟩ hb1 hA2 (by omega) (by omega)
    gi_wp2
    refine ⟨trivial, (callsIn_wide.2 hone).mono ?_⟩
    rintro e w2 ⟨hB2, A2, n2, c2, rfl, hrep⟩
    gi_wp2
    have hB3 : Below wr.heap.size wr (w2.alloc (.cells #[.int .i64 (oneK l), .slice A2 n2 c2] 181)) := hB2.alloc hB2.size _
    have hrep3 := hrep.ext (Ext.mk (ι := no) (ι' := no) (O := Osn O w wr) (O' := Osn O w wr) (w := w2) (w' := w2.alloc (.cells #[.int .i64 (oneK l), .slice A2 n2 c2] 181)) (by simp) (fun _ _ h => h) (fun g hg _ => Below.heap_alloc _ _ _ hg) (fun _ h => .inl h))
    generalize w2.alloc (.cells #[.int .i64 (oneK l), .slice A2 n2 c2] 181) = w3 at *
    by_cases he : oneE l = 0
    ·obtain ⟨fn, tmps, assign, body, hy, hRd⟩ := hR pre wr w3 (oneK l) (oneD l) A2 n2 c2 hJ1 hB3 hrep3 (by omega)
     have hp := hp1
     rw [parO_one (by omega) hz0 he, jo_jo] at hp
     rw [he]
     have hn := oneE_no he (by omega)
     obtain ⟨m, hm⟩ := Int.eq_ofNat_of_zero_le (show 0 ≤ oneN l by omega)
     rw [hm] at hp hn ⊢
     simp only [Int.toNat_natCast] at hp
     rw [hy, Oper.uponIn_round]
     refine ⟨fun h => (by cases h), hRd.mono ?_⟩
     rintro e W3 ⟨rfl, hJ3⟩
     gi_wp2
     have hlow := (hA1 (by intro e; rw [e] at hz; exact hz rfl) g1 off1 rfl).2
     have hbs3 := Bs.low hb1 hlow hbw (hJb _ _ hJ3) hlow
     have hdl : (l.drop m).length = l.length - m := List.length_drop
     have hcap := hb1.cap
     by_cases hcm : c1 = m
     ·rw [if_pos hcm]
      refine ⟨⟨pre ++ [(oneK l, oneD l)], l.drop m, some ⟨g1, off1, none⟩, l.length - m, c1 - m, rfl, hbs3.tail_none hcm (by have := hb1.most; omega), ?_, hJ3, hp, by simp; omega⟩, by show l.length - m < l.length; omega⟩
      intro hne
      exact absurd (List.eq_nil_of_length_eq_zero (by omega)) hne
     ·rw [if_neg hcm]
      refine ⟨⟨pre ++ [(oneK l, oneD l)], l.drop m, some ⟨g1, off1 + m, none⟩, l.length - m, c1 - m, rfl, hbs3.tail (by omega), ?_, hJ3, hp, by simp; omega⟩, by show l.length - m < l.length; omega⟩
      intro _ g' off' e
      injection e with e
      injection e with e
      subst e
      exact hA1 (by intro e; rw [e] at hz; exact hz rfl) g1 off1 rfl
    ·obtain ⟨fn, tmps, assign, body, hy, hRd⟩ := hE pre w3 (oneK l) A2 n2 c2 (oneE l) (hJs _ _ _ hJ1 hB3) he
     have hp := hp1
     rw [parO_err (by omega) hz0 he] at hp
     unfold jo at hp
     rw [if_neg he] at hp
     gi_wp2
     refine hRd.mono ?_
     rintro e W3 ⟨rfl, hJx3⟩
     gi_wp2
     refine bodyPost_ret (results_none rfl _ _ _) rfl ?_
     exact ⟨⟨_, rfl⟩, .inr ⟨_, he, hp, hJx3⟩⟩
end Go.Proofs.YtfhljcbbgckdiaaGreat
namespace Go.Proofs.YtfhljcbbgckdiaaGreat
open Go Go.Am Go.RowKit Go.Mix Go.Bas
attribute [local go_sem] Oper.semAt_some
set_option maxRecDepth 100000
abbrev Om (O : Nat → Prop) (w : World) (A : Option Addr) : Nat → Prop := fun b => O b ∨ A.map (·.block) = some b ∨ (w.heap.size ≤ b ∧ b < w.heap.size + 6)
structure PJ (O : Nat → Prop) (w W : World) (rec : Loop) (r0 r1 : Value) (L : List (Int × List UInt8)) : Prop where
 bel : Below w.heap.size w W
 lp : W.heap[w.heap.size + 5]? = some (.loop rec)
 df : W.heap[w.heap.size + 4]? = some (.deferred (some []))
 c0 : Blk W w.heap.size 59 [r0]
 c1 : Blk W (w.heap.size + 1) 27 [r1]
 row : ∃ A n c xs, Blk W (w.heap.size + 2) 59 [.slice A n c] ∧ W.ownsRow w.heap.size 181 2 (.slice A n c) n xs ∧ CReps no (Om O w A) W (L.map tlV) xs ∧ n = L.length
section
variable {O : Nat → Prop} {w W W' : World} {rec : Loop} {r0 r1 : Value} {L : List (Int × List UInt8)}
theorem PJ.grow (h : PJ O w W rec r0 r1 L) (hb : Below W.heap.size W W') : PJ O w W' rec r0 r1 L := by
 obtain ⟨A, n, c, xs, h1, h2, h3, h4⟩ := h.row
 have hk : ∀ k o, W.heap[k]? = some o → W'.heap[k]? = some o := fun k o hk => (hb.block k (Array.getElem?_eq_some_iff.1 hk).1).trans hk
 refine ⟨h.bel.trans (hb.mono h.bel.size), hk _ _ h.lp, hk _ _ h.df, hk _ _ h.c0, hk _ _ h.c1, A, n, c, xs, hk _ _ h1, World.ownsRow.kept h2 (grown_of_below hb none) (by cases hv : Value.ownBlock (.slice A n c) <;> simp), h3.ext (Ext.mk hb.size (fun _ _ h => h) (fun b hlt _ => hb.block b hlt) (fun _ h => .inl h)), h4⟩
theorem row_not {A : Option Addr} {n c m : Nat} {xs : List Value} {base g : Nat} {o : Obj} (hr : W.ownsRow base 181 2 (.slice A n c) m xs) (hg : W.heap[g]? = some o) (ho : ∀ cs p, o ≠ Obj.cells cs 181 p) : some g ≠ (Value.slice A n c).ownBlock := by
 rcases hr.2 with ⟨e, _⟩ | ⟨g', cap, cur, e, _, hgb, _⟩
 ·injection e with e1 e2 e3; subst e1; simp [Value.ownBlock]
 ·injection e with e1 e2 e3
  subst e1
  intro e'
  obtain rfl : g = g' := by simpa [Value.ownBlock] using e'
  rw [hg] at hgb
  injection hgb with hgb
  exact ho _ _ hgb
theorem below_put {B l : Nat} {a : World} (h : Below B a W) (hl : B ≤ l) (o : Obj) : Below B a (W.putObj l o) :=
 ⟨h.os, h.tape, h.output, by simpa using h.size, fun k hk => (World.putObj_heap_other (by omega)).trans (h.block k hk)⟩
theorem PJ.put (h : PJ O w W rec r0 r1 L) (rec' : Loop) : PJ O w (W.putObj (w.heap.size + 5) (.loop rec')) rec' r0 r1 L := by
 obtain ⟨A, n, c, xs, h1, h2, h3, h4⟩ := h.row
 have hlt : w.heap.size + 5 < W.heap.size := (Array.getElem?_eq_some_iff.1 h.lp).1
 have ho : ∀ k o, k ≠ w.heap.size + 5 → W.heap[k]? = some o → (W.putObj (w.heap.size + 5) (.loop rec')).heap[k]? = some o := fun k o hk e => (World.putObj_heap_other hk).trans e
 refine ⟨below_put h.bel (by omega) _, World.putObj_heap_same hlt, ho _ _ (by omega) h.df, ho _ _ (by omega) h.c0, ho _ _ (by omega) h.c1, A, n, c, xs, ho _ _ (by omega) h1, ?_, ?_, h4⟩
 ·exact h2.kept (grownBy_putObj' W _ _) (.inr fun e => row_not h2 h.lp (fun _ _ e => by cases e) e.symm)
 ·refine h3.ext (Ext.mk (by simp) (fun _ _ h => h) (fun b _ hn => World.putObj_heap_other fun e => hn ?_) (fun _ h => .inl h))
  subst e
  exact .inr (.inr ⟨by omega, by omega⟩)
theorem PJ.app {w1 : World} {A : Option Addr} {n c : Nat} {xs : List Value} {k : Int} {d : List UInt8} {A' : Option Addr} {n' c' g2 cap : Nat} {o : Obj} (h : PJ O w W rec r0 r1 L) (h1 : Blk W (w.heap.size + 2) 59 [.slice A n c]) (h2 : W.ownsRow w.heap.size 181 2 (.slice A n c) n xs)
  (h3 : CReps no (Om O w A) W (L.map tlV) xs) (h4 : n = L.length) (hd : CRep no (Om O w A) W (.agg [.int .i64 k, .bytes d]) [.int .i64 k, .slice A' n' c'])
  (hown : w1.ownsRow w.heap.size 181 2 (.slice (some ⟨g2, 0, none⟩) (n + 1) cap) (n + 1) (xs ++ [.int .i64 k, .slice A' n' c'])) (hgr : (W.alloc o).grownBy w1 (Value.slice A n c).ownBlock) (hblk : some g2 = (Value.slice A n c).ownBlock ∨ g2 = W.heap.size + 1) :
  PJ O w (w1.setCell ⟨w.heap.size + 2, 0, none⟩ (.slice (some ⟨g2, 0, none⟩) (n + 1) cap)) rec r0 r1 (L ++ [(k, d)]) := by
 have hs := h.bel.size
 have hlp : w.heap.size + 5 < W.heap.size := (Array.getElem?_eq_some_iff.1 h.lp).1
 have ko : ∀ g x, W.heap[g]? = some x → (∀ cs p, x ≠ Obj.cells cs 181 p) → w1.heap[g]? = some x := fun g x hx hn =>
  (hgr.block g (by have := (Array.getElem?_eq_some_iff.1 hx).1; simp; omega) (row_not h2 hx hn)).trans ((Below.heap_alloc W o g (Array.getElem?_eq_some_iff.1 hx).1).trans hx)
 have kset : ∀ g, g ≠ w.heap.size + 2 → (w1.setCell ⟨w.heap.size + 2, 0, none⟩ (.slice (some ⟨g2, 0, none⟩) (n + 1) cap)).heap[g]? = w1.heap[g]? := fun g hg => Below.heap_setCell _ _ _ g hg
 have hbx : Blk w1 (w.heap.size + 2) 59 [.slice A n c] := ko _ _ h1 (fun _ _ e => by cases e)
 have hrb : ∀ g, (Value.slice A n c).ownBlock = some g → w.heap.size ≤ g := fun g e => (World.ownsRow.lt h2 g e).1
 have hA : ∀ g, (Value.slice A n c).ownBlock = some g → A.map (·.block) = some g := fun g e => by
  rcases h2.2 with ⟨e1, _⟩ | ⟨g', cap, cur, e1, _, hgb, _⟩
  ·injection e1 with e1 e2 e3; subst e1; simp [Value.ownBlock] at e
  ·injection e1 with e1 e2 e3; subst e1; simpa [Value.ownBlock] using e
 refine ⟨(((h.bel.alloc hs _).grown hgr (by simp; omega) fun g e => hrb g e)).setCell (p := ⟨w.heap.size + 2, 0, none⟩) (by show w.heap.size ≤ w.heap.size + 2; omega) _,
  (kset _ (by omega)).trans (ko _ _ h.lp (fun _ _ e => by cases e)), (kset _ (by omega)).trans (ko _ _ h.df (fun _ _ e => by cases e)), (kset _ (by omega)).trans (ko _ _ h.c0 (fun _ _ e => by cases e)), (kset _ (by omega)).trans (ko _ _ h.c1 (fun _ _ e => by cases e)),
  some ⟨g2, 0, none⟩, n + 1, cap, xs ++ [.int .i64 k, .slice A' n' c'], hbx.set 0 _, ?_, ?_, by simp [h4]⟩
 ·exact hown.kept (grownBy_setCell' w1 _ _) (.inr fun e => row_not hown hbx (fun _ _ e => by cases e) e.symm)
 ·have hall : CReps no (Om O w A) W ((L ++ [(k, d)]).map tlV) (xs ++ [.int .i64 k, .slice A' n' c']) := by
   rw [List.map_append]
   exact h3.append (.cons (cs := [.int .i64 k, .slice A' n' c']) (ds := []) hd .nil)
  refine hall.ext (Ext.mk ?_ (fun _ _ h => h) ?_ ?_)
  ·exact Nat.le_trans (by simp) (Nat.le_trans hgr.size (grownBy_setCell' w1 _ _).size)
  ·intro b hlt hn
   rw [kset b (fun e => hn (.inr (.inr ⟨by omega, by omega⟩))), hgr.block b (by simp; omega) (fun e => hn (.inr (.inl (hA b e.symm)))), Below.heap_alloc W o b hlt]
  ·rintro b (hb | hb | hb)
   ·exact .inl (.inl hb)
   ·obtain rfl : g2 = b := by simpa using hb
    rcases hblk with hblk | hblk
    ·exact .inl (.inr (.inl (hA _ hblk.symm)))
    ·exact .inr (by omega)
   ·exact .inl (.inr (.inr hb))
end
end Go.Proofs.YtfhljcbbgckdiaaGreat
namespace Go.Proofs.YtfhljcbbgckdiaaGreat
open Go Go.Am Go.RowKit Go.Mix Go.Bas
attribute [local go_sem] Oper.semAt_some
set_option maxRecDepth 100000
theorem wpListIn_app_run {F : Fence} {n : Nat} {P : Program} {w w' : World} {ops : Array Oper} {rest : List Oper} {o : Oper} {a : Act} {Q : Exit → Act → World → Prop} {v1 v2 v' : Value}
  (hg : o.guard = none) (s x : Operand) (t : TypeId) (hop : o.op = Op.call { callee := Callee.builtin Builtin.append, args := #[s, x], argTypes := #[t, t] }) (hs : a.eval s = v1) (hx : a.eval x = v2)
  (hrun : (Builtin.append_ #[t, t] o.type #[v1, v2]).run P w = .ok v' w') (hK : wpListIn F n P ops Q rest (a.put o.dst v') w') : wpListIn F n P ops Q (o :: rest) a w := by
 refine wpListIn_plain hg fun K hK' => ?_
 unfold Oper.wpIn
 refine ⟨?_, ?_⟩
 ·simp [Oper.about, hop, resolve, Target.leads, Sem.run_pure]
 ·rw [Oper.semAt_plain F _ _ (by rw [hop]; intro c hc'; cases hc')]
  simp [execOp, hop, resolve, invoke, builtin, hs, hx, hrun, Result.andThen]
  exact hK' _ _ hK
theorem Tryz.infoOpt : (Tryz.prog.info? 181).map (fun i => (i.zero, i.size, i.bytes)) = some (some (.agg #[.int .i64 0, .slice none 0 0]), 2, 32) := by kernel_rfl
def topE (b : List UInt8) : Int := if b.length ≤ 40 then (parO b).1 else 4
def topP (b : List UInt8) : List V := if b.length ≤ 40 then (parO b).2.map tlV else []
theorem parse_results {W : World} {tmps : Array Value} {g0 g1 : Nat} {c0 c1 : Value} (h2 : tmps.getD 2 undef = .pointer (some ⟨g0, 0, none⟩)) (h3 : tmps.getD 3 undef = .pointer (some ⟨g1, 0, none⟩)) (hc0 : Blk W g0 59 [c0]) (hc1 : Blk W g1 27 [c1]) :
  (results Tryz.f174 tmps).run Tryz.prog W = .ok (.tuple #[c0, c1]) W := by
 have r0 : (loadVar 59 ⟨g0, 0, none⟩).run Tryz.prog W = .ok c0 W := by
  have := hc0.cell (j := 0) rfl
  simp [loadVar, go_sem, Tryz.underlying59, this]
 have r1 : (loadVar 27 ⟨g1, 0, none⟩).run Tryz.prog W = .ok c1 W := by
  have := hc1.cell (j := 0) rfl
  simp [loadVar, go_sem, Tryz.underlying27, this]
 have hr : (Tryz.f174).results = #[.cell 2 59, .cell 3 27] := rfl
 unfold results
 rw [hr]
 rw [Array.getD_eq_getD_getElem?] at h2 h3
 simp [Sem.run_bind, h2, h3, asAddr, r0, r1, Result.andThen]
theorem parse_leaves {W : World} {tmps : Array Value} {g0 g1 D : Nat} {c0 c1 : Value} {R : Ending → World → Prop} (h2 : tmps.getD 2 undef = .pointer (some ⟨g0, 0, none⟩)) (h3 : tmps.getD 3 undef = .pointer (some ⟨g1, 0, none⟩)) (hc0 : Blk W g0 59 [c0]) (hc1 : Blk W g1 27 [c1])
  (hD : W.heap[D]? = some (.deferred (some []))) (n0 : g0 ≠ D) (n1 : g1 ≠ D) (hR : R (.returned (.tuple #[c0, c1])) (W.putObj D (.deferred none))) :
  LeavesInM Fence.wide 3 Tryz.prog Tryz.f174 tmps R [{ target := .collected D, args := #[] }] .returning W :=
 ⟨by simp, .inl ⟨_, _, rfl, run_takeDeferred hD, _, parse_results h2 h3 ((World.putObj_heap_other n0).trans hc0) ((World.putObj_heap_other n1).trans hc1), hR⟩⟩
structure PX (w W : World) (rec : Loop) (r0 r1 : Value) : Prop where
 bel : Below w.heap.size w W
 lp : W.heap[w.heap.size + 5]? = some (.loop rec)
 df : W.heap[w.heap.size + 4]? = some (.deferred (some []))
 c0 : Blk W w.heap.size 59 [r0]
 c1 : Blk W (w.heap.size + 1) 27 [r1]
theorem PX.put {w W : World} {rec : Loop} {r0 r1 : Value} (h : PX w W rec r0 r1) (rec' : Loop) : PX w (W.putObj (w.heap.size + 5) (.loop rec')) rec' r0 r1 :=
 ⟨below_put h.bel (by omega) _, World.putObj_heap_same (Array.getElem?_eq_some_iff.1 h.lp).1, (World.putObj_heap_other (by omega)).trans h.df, (World.putObj_heap_other (by omega)).trans h.c0, (World.putObj_heap_other (by omega)).trans h.c1⟩
set_option maxRecDepth 8000 in
set_option maxHeartbeats 1000000 in
theorem toptParse_calls (O : Nat → Prop) (w : World) (A : Option Addr) (n c : Nat) (b : List UInt8) (hO : OOk O w) (hb : Bs w A n c b) (ho : b ≠ [] → ∀ g off, A = some ⟨g, off, none⟩ → ¬ O g) :
    Calls Tryz.prog 174 #[.slice A n c] w fun e w' => Below w.heap.size w w' ∧ ∃ v, e = .returned v ∧ OutRep O w w' (.tup [.ownv 181 (.rows (.agg [.int .i64, .bytes]) (topP b)), .int .i64 (topE b)]) v := by
  obtain rfl : n = b.length := hb.len
  refine (callsIn_wide (n := 3)).1 (callsIn_of_wp_marks Tryz.func174 rfl trivial (wpIn_wide.2 ?_))
  simp only [Tryz.ntmps174, List.size_toArray, List.length_cons, List.length_nil, Nat.reduceAdd, Nat.reduceSub, Array.replicate_succ, Array.replicate_zero, List.push_toArray, List.append_toArray, List.nil_append, List.cons_append]
  by_cases hn : b.length ≤ 40
  · go_wp2_with fail
    refine (all_calls _ _ _ _).mono ?_
    rintro e w1 ⟨rfl, rfl⟩
    go_wp2_with fail
    obtain ⟨W1, hW1⟩ : ∃ W1, (((w.alloc (.cells #[.slice none 0 0] 59)).alloc (.cells #[.int .i64 0] 27)).alloc (.cells #[.slice none 0 0] 59)).alloc (.cells #[.slice A b.length c] 34) = W1 := ⟨_, rfl⟩
    have f0 : Blk W1 w.heap.size 59 [.slice none 0 0] := by rw [← hW1]; exact (((Blk.new _ _ _).alloc _).alloc _).alloc _
    have f1 : Blk W1 (w.heap.size + 1) 27 [.int .i64 0] := by rw [← hW1]; exact ((Blk.new_at _ _ _ (by simp)).alloc _).alloc _
    have f2 : Blk W1 (w.heap.size + 2) 59 [.slice none 0 0] := by rw [← hW1]; exact (Blk.new_at _ _ _ (by simp)).alloc _
    have f3 : Blk W1 (w.heap.size + 3) 34 [.slice A b.length c] := by rw [← hW1]; exact Blk.new_at _ _ _ (by simp)
    have fb : Below w.heap.size w W1 := by rw [← hW1]; exact ((((Below.refl _ _).alloc (Nat.le_refl _) _).alloc (by simp) _).alloc (by simp; omega) _).alloc (by simp; omega) _
    have hL : W1.heap.size + 1 = w.heap.size + 5 := by rw [← hW1]; simp
    have fs : W1.heap.size = w.heap.size + 4 := by rw [← hW1]; simp
    rw [hW1]
    clear hW1
    refine range_go (gf := 183) (lb := #[.pointer (some ⟨w.heap.size + 1 + 1 + 1, 0, none⟩)]) rfl (enters_of Tryz.func183 (by kernel_rfl) rfl) ?_
    intro fn rec hrec
    dsimp only at hrec
    rw [fs] at hrec
    have hsz2 : ∀ o o', ((W1.alloc o).alloc o').heap.size = w.heap.size + 6 := by intro o o'; simp; omega
    refine (iter_calls O w (W1.heap.size + 1) b (fun pre W => PJ O w W (rec .ready none) (.slice none 0 0) (.int .i64 0) pre) (fun e W => PX w W (rec .done (some .ret)) (.slice none 0 0) (.int .i64 e)) hO hn (fun _ _ _ h hb => h.grow hb) (fun _ _ h => h.bel) ?hR ?hE _ ?h0 (w.heap.size + 1 + 1 + 1) A b.length c ?hg ?hb ?hA).mono ?hpost
    case h0 =>
      refine ⟨(fb.alloc (by omega) _).alloc (by simp; omega) _, ?_, ?_, (f0.alloc _).alloc _, (f1.alloc _).alloc _, none, 0, 0, [], (f2.alloc _).alloc _, World.ownsRow_nil _ _ _ _, .nil, rfl⟩
      · have := World.alloc_heap_new (W1.alloc (.deferred (some []))) (.loop (rec .ready none))
        rw [World.size_alloc, fs] at this
        exact this
      · have := (Below.heap_alloc (W1.alloc (.deferred (some []))) (.loop (rec .ready none)) W1.heap.size (by simp)).trans (World.alloc_heap_new W1 _)
        rwa [fs] at this
    case hg => exact (Below.heap_alloc (W1.alloc _) _ _ (by simp; omega)).trans ((Below.heap_alloc W1 _ _ (by omega)).trans f3) |> fun h => Blk.cell (cs := [.slice A b.length c]) (T := 34) h (j := 0) rfl
    case hb => exact ((hb.below (Nat.le_refl _) fb).alloc _).alloc _
    case hA => exact fun hne g off e => ⟨ho hne g off e, by obtain ⟨g', off', e', hlt, _⟩ := hb.rd hne; rw [e] at e'; injection e' with e'; injection e' with e1 e2; omega⟩
    case hR =>
      intro pre Wc W k d A' n' c' hJ hB hrep hpre
      have hJ' := hJ.grow hB
      have hl := hJ'.lp
      rw [← hL] at hl
      have hy := run_yield (P := Tryz.prog) (args := #[opV k A' n' c', .int .i64 0]) hl (by rw [hrec]; rfl)
      rw [hrec] at hy
      refine ⟨fn, _, _, _, hy, roundIn_of_wpIn trivial ?_⟩
      clear hy
      obtain ⟨i0, hi, hz0, hz1, hz2⟩ := info_parts Tryz.infoOpt
      gi_wp2
      have hbe : Below Wc.heap.size Wc (W.alloc (.cells #[.int .i64 k, .slice A' n' c'] 181)) := hB.alloc hB.size _
      have hJ2 := hJ.grow hbe
      have hrep2 := hrep.ext (Ext.mk (ι := no) (ι' := no) (O := Osn O w Wc) (O' := Osn O w Wc) (w := W) (w' := W.alloc (.cells #[.int .i64 k, .slice A' n' c'] 181)) (by simp) (fun _ _ h => h) (fun g hg _ => Below.heap_alloc _ _ _ hg) (fun _ h => .inl h))
      have hbox : Blk (W.alloc (.cells #[.int .i64 k, .slice A' n' c'] 181)) W.heap.size 181 [.int .i64 k, .slice A' n' c'] := Blk.new _ _ _
      have hWs := hB.size
      obtain ⟨A5, n5, c5, xs5, hbo5, hrow5, -, -⟩ := hJ.row
      have hbo6 := hbo5.below hbo5.lt hbe
      have hWc := (Array.getElem?_eq_some_iff.1 hJ.lp).1
      generalize W.alloc (.cells #[.int .i64 k, .slice A' n' c'] 181) = Wa at *
      have hla := hJ2.lp
      rw [← hL] at hla
      refine ⟨_, run_beginRound hla (by rw [hrec]), ?_⟩
      rw [hL]
      have hJ3 := hJ2.put { rec .ready none with state := .busy }
      have hbox3 : Blk (Wa.putObj (w.heap.size + 5) (.loop { rec .ready none with state := .busy })) W.heap.size 181 [.int .i64 k, .slice A' n' c'] := (World.putObj_heap_other (by omega)).trans hbox
      have hbo7 : Blk (Wa.putObj (w.heap.size + 5) (.loop { rec .ready none with state := .busy })) (w.heap.size + 2) 59 [.slice A5 n5 c5] := (World.putObj_heap_other (by omega)).trans hbo6
      have hrep3 := hrep2.ext (Ext.mk (ι := no) (ι' := no) (O := Osn O w Wc) (O' := Osn O w Wc) (w := Wa) (w' := Wa.putObj (w.heap.size + 5) (.loop { rec .ready none with state := .busy })) (by simp) (fun _ _ h => h) (fun g _ hn => World.putObj_heap_other fun e => hn (.inr ⟨by omega, by omega⟩)) (fun _ h => .inl h))
      generalize Wa.putObj (w.heap.size + 5) (.loop { rec .ready none with state := .busy }) = Wb at *
      obtain ⟨A0, n0, c0, xs, hbo, hrow, hreps, rfl⟩ := hJ3.row
      have hWb := (Array.getElem?_eq_some_iff.1 hJ3.lp).1
      have hdat : CRep no (Om O w A0) Wb (.agg [.int .i64 k, .bytes d]) [.int .i64 k, .slice A' n' c'] := by
        refine hrep3.ext (Ext.mk (Nat.le_refl _) (fun _ _ h => h) (fun _ _ _ => rfl) ?_)
        rintro g (hg | hg | hg)
        · exact .inl (.inl hg)
        · have hq : some (Obj.cells #[.slice A5 n5 c5] 59 (0, 0)) = some (Obj.cells #[.slice A0 pre.length c0] 59 (0, 0)) := hbo7.symm.trans hbo
          obtain ⟨rfl, rfl, rfl⟩ : A5 = A0 ∧ n5 = pre.length ∧ c5 = c0 := by simpa using hq
          rcases hrow5.2 with ⟨e1, _⟩ | ⟨g', cap, cur, e1, hb1, hgb, _⟩
          · injection e1 with e1 e2 e3; subst e1; simp at hg
          · injection e1 with e1 e2 e3
            subst e1
            obtain rfl : g' = g := by simpa using hg
            exact .inl (.inr ⟨hb1, (Array.getElem?_eq_some_iff.1 hgb).1⟩)
        · exact .inl (.inr ⟨hg.1, by omega⟩)
      have e0 := hbox3.cell (j := 0) rfl
      have e1 := hbox3.cell (j := 1) rfl
      have e2 : Wb.cell? ⟨w.heap.size + 1 + 1, 0, none⟩ = some (.slice A0 pre.length c0) := hbo.cell (j := 0) rfl
      have hbn : Blk (Wb.alloc (.cells #[.int .i64 k, .slice A' n' c'] 181)) Wb.heap.size 181 [.int .i64 k, .slice A' n' c'] := Blk.new _ _ _
      obtain ⟨v', w1, hrun, hown, hgr, -, hblk⟩ := run_append_own_at (P := Tryz.prog) (Wb.alloc (.cells #[.int .i64 k, .slice A' n' c'] 181)) w.heap.size 59 59 181 i0 (.agg #[.int .i64 0, .slice none 0 0]) 2 32 Tryz.underlying59 hi hz0 hz1 hz2 rfl (by omega) _ _ _
        (hrow.kept (World.grownBy_alloc _ _ none) (by cases hv : Value.ownBlock (.slice A0 pre.length c0) <;> simp)) ⟨Wb.heap.size, 0, none⟩ 1 1 [.int .i64 k, .slice A' n' c'] rfl
        (fun j u hj => by
          rw [add_lit0, Nat.zero_add]
          match j, hj with
          | 0, hj => cases hj; exact hbn.cell (j := 0) rfl
          | 1, hj => cases hj; exact hbn.cell (j := 1) rfl) (by intro u hu; simp at hu; rcases hu with rfl | rfl <;> rfl) (by unfold maxLen; omega) (by omega) (by simp; omega)
      obtain ⟨g2, cap2, rfl⟩ := ownsRow_succ hown
      have hbx : Blk w1 (w.heap.size + 2) 59 [.slice A0 pre.length c0] := (hgr.block _ (by simp; omega) (row_not hrow hbo (fun _ _ e => by cases e))).trans ((Below.heap_alloc _ _ _ (by omega)).trans hbo)
      have e3 : w1.cell? ⟨w.heap.size + 1 + 1, 0, none⟩ = some (.slice A0 pre.length c0) := hbx.cell (j := 0) rfl
      have e4 : w1.frozen? ⟨w.heap.size + 1 + 1, 0, none⟩ = false := hbx.free 0
      have hJ4 := hJ3.app hbo hrow hreps rfl hdat hown hgr (by
        rcases hblk with h | h
        · exact .inl h
        · right; simpa [Value.ownBlock] using h)
      gi_wp2_with (gi_at_builtin; refine wpListIn_app_run rfl _ _ _ rfl rfl rfl hrun ?_)
      have hend : (Instr.endRound (w.heap.size + 5) none).run Tryz.prog (w1.setCell ⟨w.heap.size + 2, 0, none⟩ (.slice (some ⟨g2, 0, none⟩) (pre.length + 1) cap2)) = .ok (.bool true) ((w1.setCell ⟨w.heap.size + 2, 0, none⟩ (.slice (some ⟨g2, 0, none⟩) (pre.length + 1) cap2)).putObj (w.heap.size + 5) (.loop (rec .ready none))) := by
        have := run_endRound (P := Tryz.prog) none hJ4.lp
        rw [hrec] at this ⊢
        exact this
      have hJ5 := hJ4.put (rec .ready none)
      rw [hrec] at hJ5 hend
      exact ⟨_, _, hend, rfl, hJ5⟩
    case hE =>
      intro pre W k A' n' c' e hJ he
      have hl := hJ.lp
      rw [← hL] at hl
      have hy := run_yield (P := Tryz.prog) (args := #[opV k A' n' c', .int .i64 e]) hl (by rw [hrec]; rfl)
      rw [hrec] at hy
      refine ⟨fn, _, _, _, hy, roundIn_of_wpIn trivial ?_⟩
      clear hy
      gi_wp2
      have hJ2 := hJ.grow ((Below.refl W.heap.size W).alloc (Nat.le_refl _) (.cells #[.int .i64 k, .slice A' n' c'] 181))
      generalize W.alloc (.cells #[.int .i64 k, .slice A' n' c'] 181) = Wa at *
      have hla := hJ2.lp
      rw [← hL] at hla
      refine ⟨_, run_beginRound hla (by rw [hrec]), ?_⟩
      rw [hL]
      have hJ3 := hJ2.put { rec .ready none with state := .busy }
      generalize Wa.putObj (w.heap.size + 5) (.loop { rec .ready none with state := .busy }) = Wb at *
      have q0 := hJ3.c0.cell (j := 0) rfl
      have q1 := hJ3.c1.cell (j := 0) rfl
      have q2 := hJ3.c0.free 0
      have q3 := hJ3.c1.free 0
      gi_wp2
      have hlp : ((Wb.setCell ⟨w.heap.size, 0, none⟩ (.slice none 0 0)).setCell ⟨w.heap.size + 1, 0, none⟩ (.int .i64 e)).heap[w.heap.size + 5]? = some (.loop { rec .ready none with state := .busy }) :=
        (Below.heap_setCell _ _ _ _ (by show w.heap.size + 5 ≠ w.heap.size + 1; omega)).trans ((Below.heap_setCell _ _ _ _ (by show w.heap.size + 5 ≠ w.heap.size; omega)).trans hJ3.lp)
      have hx : PX w ((Wb.setCell ⟨w.heap.size, 0, none⟩ (.slice none 0 0)).setCell ⟨w.heap.size + 1, 0, none⟩ (.int .i64 e)) { rec .ready none with state := .busy } (.slice none 0 0) (.int .i64 e) :=
        ⟨(hJ3.bel.setCell (p := ⟨w.heap.size, 0, none⟩) (Nat.le_refl _) _).setCell (p := ⟨w.heap.size + 1, 0, none⟩) (by show w.heap.size ≤ w.heap.size + 1; omega) _, hlp,
         (Below.heap_setCell _ _ _ _ (by show w.heap.size + 4 ≠ w.heap.size + 1; omega)).trans ((Below.heap_setCell _ _ _ _ (by show w.heap.size + 4 ≠ w.heap.size; omega)).trans hJ3.df),
         (hJ3.c0.set 0 _).other (by show w.heap.size ≠ w.heap.size + 1; omega) _, (hJ3.c1.other (by show w.heap.size + 1 ≠ w.heap.size; omega) _).set 0 _⟩
      have hend : (Instr.endRound (w.heap.size + 5) (some .ret)).run Tryz.prog ((Wb.setCell ⟨w.heap.size, 0, none⟩ (.slice none 0 0)).setCell ⟨w.heap.size + 1, 0, none⟩ (.int .i64 e)) = .ok (.bool false) (((Wb.setCell ⟨w.heap.size, 0, none⟩ (.slice none 0 0)).setCell ⟨w.heap.size + 1, 0, none⟩ (.int .i64 e)).putObj (w.heap.size + 5) (.loop (rec .done (some .ret)))) := by
        have := run_endRound (P := Tryz.prog) (some .ret) hx.lp
        rw [hrec] at this ⊢
        exact this
      have hx2 := hx.put (rec .done (some .ret))
      rw [hrec] at hx2 hend
      exact ⟨_, _, hend, rfl, hx2⟩
    case hpost =>
      rintro e W' ⟨⟨v, rfl⟩, ⟨l, hpo, hJ⟩ | ⟨e, he, hpo, hJ⟩⟩
      · have hend : (Instr.endLoop (w.heap.size + 5)).run Tryz.prog W' = .ok none (W'.putObj (w.heap.size + 5) (.loop { rec .ready none with state := .exhausted })) := by
          have := run_endLoop (P := Tryz.prog) hJ.lp (by rw [hrec]; simp)
          rw [hrec] at this ⊢
          exact this
        rw [hL]
        refine ⟨none, _, hend, ?_⟩
        have hJ2 := hJ.put { rec .ready none with state := .exhausted }
        generalize W'.putObj (w.heap.size + 5) (.loop { rec .ready none with state := .exhausted }) = Wb at *
        obtain ⟨A0, n0, c0, xs, hbo, hrow, hreps, rfl⟩ := hJ2.row
        have q0 := hJ2.c0.cell (j := 0) rfl
        have q1 := hJ2.c1.cell (j := 0) rfl
        have q2 := hJ2.c0.free 0
        have q3 := hJ2.c1.free 0
        have q4 : Wb.cell? ⟨w.heap.size + 1 + 1, 0, none⟩ = some (.slice A0 l.length c0) := hbo.cell (j := 0) rfl
        go_wp2
        have k0 : Blk ((Wb.setCell ⟨w.heap.size, 0, none⟩ (.slice A0 l.length c0)).setCell ⟨w.heap.size + 1, 0, none⟩ (.int .i64 0)) w.heap.size 59 [.slice A0 l.length c0] := (hJ2.c0.set 0 _).other (by show w.heap.size ≠ w.heap.size + 1; omega) _
        have k1 : Blk ((Wb.setCell ⟨w.heap.size, 0, none⟩ (.slice A0 l.length c0)).setCell ⟨w.heap.size + 1, 0, none⟩ (.int .i64 0)) (w.heap.size + 1) 27 [.int .i64 0] := (hJ2.c1.other (by show w.heap.size + 1 ≠ w.heap.size; omega) _).set 0 _
        have kD : ((Wb.setCell ⟨w.heap.size, 0, none⟩ (.slice A0 l.length c0)).setCell ⟨w.heap.size + 1, 0, none⟩ (.int .i64 0)).heap[w.heap.size + 4]? = some (.deferred (some [])) :=
          (Below.heap_setCell _ _ _ _ (by show w.heap.size + 4 ≠ w.heap.size + 1; omega)).trans ((Below.heap_setCell _ _ _ _ (by show w.heap.size + 4 ≠ w.heap.size; omega)).trans hJ2.df)
        refine parse_leaves rfl rfl k0 k1 kD (by omega) (by omega) ?_
        have hbz : Below w.heap.size w (((Wb.setCell ⟨w.heap.size, 0, none⟩ (.slice A0 l.length c0)).setCell ⟨w.heap.size + 1, 0, none⟩ (.int .i64 0)).putObj (w.heap.size + 4) (.deferred none)) :=
          below_put ((hJ2.bel.setCell (p := ⟨w.heap.size, 0, none⟩) (Nat.le_refl _) _).setCell (p := ⟨w.heap.size + 1, 0, none⟩) (by show w.heap.size ≤ w.heap.size + 1; omega) _) (by omega) _
        have hl6 := (Array.getElem?_eq_some_iff.1 hJ2.lp).1
        have hsame : ∀ g, (g < w.heap.size ∨ w.heap.size + 6 ≤ g) → (((Wb.setCell ⟨w.heap.size, 0, none⟩ (.slice A0 l.length c0)).setCell ⟨w.heap.size + 1, 0, none⟩ (.int .i64 0)).putObj (w.heap.size + 4) (.deferred none)).heap[g]? = Wb.heap[g]? := fun g hg =>
          (World.putObj_heap_other (by omega)).trans ((Below.heap_setCell _ _ _ _ (by show g ≠ w.heap.size + 1; omega)).trans (Below.heap_setCell _ _ _ _ (by show g ≠ w.heap.size; omega)))
        have hszz : (((Wb.setCell ⟨w.heap.size, 0, none⟩ (.slice A0 l.length c0)).setCell ⟨w.heap.size + 1, 0, none⟩ (.int .i64 0)).putObj (w.heap.size + 4) (.deferred none)).heap.size = Wb.heap.size := by simp
        rw [show topE b = 0 by unfold topE; rw [if_pos hn, hpo], show topP b = l.map tlV by unfold topP; rw [if_pos hn, hpo]]
        refine ⟨hbz, _, rfl, .tup (n := l.length) (ds := xs) ?_ ?_ (.cons (.one (.int (by intro h; cases h)) rfl) .nil)⟩
        · have hx := hreps.ext (Ext.mk (ι := no) (ι' := no) (O := Om O w A0) (O' := fun b => O b ∨ A0.map (·.block) = some b) (w := Wb) (by omega) (fun _ _ h => h) (fun g hlt hn => hsame g (by
            have := hn
            by_cases h1 : g < w.heap.size
            · exact .inl h1
            · by_cases h2 : w.heap.size + 6 ≤ g
              · exact .inr h2
              · exact absurd (Or.inr (Or.inr ⟨by omega, by omega⟩)) hn)) (fun g hg => .inl (hg.imp id .inl)))
          have := RowC.rows (e := .agg [.int .i64, .bytes]) (l := l.map tlV) (by intro x hx; obtain ⟨p, _, rfl⟩ := List.mem_map.1 hx; rfl) hx
          rwa [List.length_map] at this
        · have o1 := hrow.kept (grownBy_setCell' Wb w.heap.size (.slice A0 l.length c0)) (.inr fun e => row_not hrow hJ2.c0 (fun _ _ e => by cases e) e.symm)
          have o2 := o1.kept (grownBy_setCell' _ (w.heap.size + 1) (.int .i64 0)) (.inr fun e => row_not o1 (hJ2.c1.other (p := ⟨w.heap.size, 0, none⟩) (by show w.heap.size + 1 ≠ w.heap.size; omega) (.slice A0 l.length c0)) (fun _ _ e => by cases e) e.symm)
          exact ownsRow_putObj o2 _ kD rfl
      · have hend : (Instr.endLoop (w.heap.size + 5)).run Tryz.prog W' = .ok (some .ret) (W'.putObj (w.heap.size + 5) (.loop { rec .done (some .ret) with state := .exhausted })) := by
          have := run_endLoop (P := Tryz.prog) hJ.lp (by rw [hrec]; simp)
          rw [hrec] at this ⊢
          exact this
        rw [hL]
        refine ⟨some .ret, _, hend, ?_⟩
        have hJ2 := hJ.put { rec .done (some .ret) with state := .exhausted }
        generalize W'.putObj (w.heap.size + 5) (.loop { rec .done (some .ret) with state := .exhausted }) = Wb at *
        refine wpIn_ret ?_
        simp only [Exit.inBlock, Exit.then]
        rw [fs]
        refine parse_leaves rfl rfl hJ2.c0 hJ2.c1 hJ2.df (by omega) (by omega) ?_
        rw [show topE b = e by unfold topE; rw [if_pos hn, hpo], show topP b = [] by unfold topP; rw [if_pos hn, hpo]; rfl]
        exact ⟨below_put hJ2.bel (by omega) _, _, rfl, .tup (n := 0) (ds := []) (.rows (by simp) .nil) (World.ownsRow_nil _ _ _ _) (.cons (.one (.int (by intro h; cases h)) rfl) .nil)⟩
  · go_wp2_with fail
    rw [show topE b = 4 by unfold topE; rw [if_neg hn], show topP b = [] by unfold topP; rw [if_neg hn]]
    refine ⟨_, parse_results rfl rfl ((Blk.new w 59 [.slice none 0 0]).alloc _) (Blk.new_at _ 27 [.int .i64 4] (by simp)), ?_⟩
    exact ⟨((Below.refl _ _).alloc (Nat.le_refl _) _).alloc (by simp) _, _, rfl, .tup (n := 0) (ds := []) (.rows (by simp) .nil) (World.ownsRow_nil _ _ _ _) (.cons (.one (.int (by intro h; cases h)) rfl) .nil)⟩
end Go.Proofs.YtfhljcbbgckdiaaGreat
namespace Go.Proofs.YtfhljcbbgckdiaaGreat
open Go Go.Am Go.RowKit Go.Mix Go.Bas
set_option maxRecDepth 100000
def cTopPar : List V → Option (V × Bool)
 | [.bytes b] => some (.tup [.ownv 181 (.rows (.agg [.int .i64, .bytes]) (topP b)), .int .i64 (topE b)], true)
 | _ => none
theorem TopPar_con : ∀ vs v, cTopPar vs = some (v, true) → SpecV Tryz.prog 174 vs v := by
 intro vs v h; unfold cTopPar at h; split at h
 ·injection h with h; injection h with h hb; subst h
  intro O w cs hO hv
  obtain ⟨a, rfl, ha⟩ := hv.one_inv
  cases ha with
  | one h ha =>
   cases h with
   | bytes hb ho => exact toptParse_calls O w _ _ _ _ hO hb ho
  | agg h ha => cases ha
 ·cases h
abbrev tkB (p : Int × List UInt8) : Prop := p.1 ≤ 0 ∨ 255 < p.1
def lgO (k : Int) (n : Nat) : Int := if k = 1 then 1 else 2 + n
def ocE : List (Int × List UInt8) → Int
 | [] => 0
 | p :: r => if tkB p then 2 else if fitB p.1 p.2.length = false then 5 else ocE r
def ocN (left k : Int) (n : Nat) : Int := if left < 0 then left else left - (if lgO k n ≤ 41 then lgO k n else 41)
def ocL : Int → List (Int × List UInt8) → Int
 | left, [] => left
 | left, p :: r => if tkB p then left else if fitB p.1 p.2.length = false then left else ocL (ocN left p.1 p.2.length) r
def canO (L : List (Int × List UInt8)) : Int := if ocE L = 0 then (if ocL 40 L < 0 then 8 else 0) else ocE L
theorem lgO_pos (k : Int) (n : Nat) : 1 ≤ lgO k n := by unfold lgO; split <;> omega
theorem ocN_rng {left k : Int} {n : Nat} (h1 : -41 ≤ left) (h2 : left ≤ 40) : -41 ≤ ocN left k n ∧ ocN left k n ≤ 40 := by
 have := lgO_pos k n
 unfold ocN
 split
 ·exact ⟨h1, h2⟩
 ·split <;> omega
noncomputable def af_toptLong : AF := afOf Tryz.prog Tryz.f142 []
theorem af_toptLong_ok : AllOk Tryz.prog 142 af_toptLong := .flat Tryz.func142 (by kernel_rfl) (by kernel_rfl) (by kernel_rfl) (by kernel_rfl) (by kernel_rfl)
theorem toptLong_t (k : Int) (d : List UInt8) : callV Etv0 af_toptLong [.agg [.int .i64 k, .bytes d]] =
 bif k == (1 : Int) then some (V.int IntKind.i64 1)
 else some (V.int IntKind.i64 (IntKind.i64.wrap ((2 : Int) + (↑d.length : Int)))) := by kernel_rfl
theorem toptLong_v (k : Int) (d : List UInt8) (h : d.length ≤ 4611686018427387904) : callV Etv0 af_toptLong [.agg [.int .i64 k, .bytes d]] = some (.int .i64 (lgO k d.length)) := by
 rw [toptLong_t]
 unfold lgO
 by_cases h1 : k = 1
 ·rw [if_pos h1]
  simp (disch := omega) only [tre]
 ·rw [if_neg h1]
  simp (disch := omega) only [tre]
def cToptLong : List V → Option (V × Bool)
 | [.agg [.int .i64 k, .bytes d]] => some (.int .i64 (lgO k d.length), decide (d.length ≤ 4611686018427387904))
 | _ => none
theorem toptLong_con : ∀ vs v, cToptLong vs = some (v, true) → SpecV Tryz.prog 142 vs v := by
 intro vs v h; unfold cToptLong at h; split at h
 ·rename_i k d
  injection h with h; injection h with h hb; subst h
  exact callV_ok Etv0_ok af_toptLong_ok (toptLong_v k d (of_decide_eq_true hb))
 ·cases h
def ocX (e left : Int) : S := ⟨[(2, .int .i64 e), (3, .int .i64 left)], [], 0, true, 35⟩
def ocT (l : List V) (left r : Int) : Tr := .br (decide (ocE (tls l) = 0)) (.leaf (.exit 0) (ocX r (ocL left (tls l)))) (.leaf .ret (ocX (ocE (tls l)) (ocL left (tls l))))
def smallL (l : List V) : Bool := (tls l).all fun p => decide (p.2.length ≤ 4611686018427387904)
def ocG : S → Option (Bool × Tr) := gOf 35 0 fun sl _ => match sl 6, sl 7, sl 8, sl 3, sl 2 with
 | some (.rows (.agg [.int .i64, .bytes]) l), some (.int .i64 n), some (.int .i64 i), some (.int .i64 left), some (.int .i64 r) => some (decide (n = l.length ∧ 0 ≤ i ∧ i ≤ n ∧ n ≤ 4611686018427387904 ∧ -41 ≤ left ∧ left ≤ 40) && smallL (l.drop i.toNat), ocT (l.drop i.toNat) left r)
 | _, _, _, _, _ => none
noncomputable def af_toptCan : AF := afOf Tryz.prog Tryz.f141 [.sum [6, 7, 8, 3, 2] [] ocG]
noncomputable def ocC : AC := (af_toptCan.ac.sums.headD (.skip, [], [], fun _ => none)).1
def ocSt (l : List V) (n i left r : Int) : S := ⟨[(6, .rows (.agg [.int .i64, .bytes]) l), (7, .int .i64 n), (8, .int .i64 i), (3, .int .i64 left), (2, .int .i64 r)], [], 0, true, 35⟩
noncomputable def GEtp : List (Nat × Con) := [(147, .val [.agg [.int .i64, .bytes]] cFits), (142, .val [.agg [.int .i64, .bytes]] cToptLong)]
theorem GEtp_ok : GOk Tryz.prog GEtp := .cons (enters_of Tryz.func147 (by kernel_rfl) rfl) Fits_con <| .cons (enters_of Tryz.func142 (by kernel_rfl) rfl) toptLong_con <| .nil
noncomputable def IEtp : List (Nat × AF) := []
theorem IEtp_ok : IOk Tryz.prog IEtp := .nil
noncomputable def CEtp : List (Nat × (List Nat × (S → Option (Bool × Tr)))) := []
theorem CEtp_ok : COk Tryz.prog CEtp := .nil
noncomputable def XEtp : List (Nat × (List Sh × (List V → PT))) := []
theorem XEtp_ok : XOk Tryz.prog XEtp := .nil
noncomputable def Etp : Env := ⟨Tryz.prog, GEtp, IEtp, CEtp, XEtp, false⟩
theorem Etp_ok : EnvOk Etp := ⟨by kernel_rfl, GEtp_ok, IEtp_ok, CEtp_ok, XEtp_ok⟩
theorem toptCan_b (l : List V) (n i left r : Int) : aev Etp (inlN Etp 6) ocC (bodyK [6, 7, 8, 3, 2] [2, 3] []) (ocSt l n i left r) =
 bif decide (i < n) then
 bif andT true (inB i l.length) then
 bif decide (toI ((toG (l.getD i.toNat V.undef)).headD V.undef) ≤ (0 : Int)) then
 some
 (Ex.ret,
 { sl := [(2, V.int IntKind.i64 2), (3, V.int IntKind.i64 left)], hp := [], nx := 0, ob := true, n := 35 })
 else
 bif decide (toI ((toG (l.getD i.toNat V.undef)).headD V.undef) > (255 : Int)) then
 some
 (Ex.ret,
 { sl := [(2, V.int IntKind.i64 2), (3, V.int IntKind.i64 left)], hp := [], nx := 0, ob := true, n := 35 })
 else
 bif
 andT true
 (decide ((0 : Int) ≤ toI ((toG (l.getD i.toNat V.undef)).headD V.undef)) &&
 decide (toI ((toG (l.getD i.toNat V.undef)).headD V.undef) ≤ (255 : Int))) then
 bif
 !fitB (toI ((toG (l.getD i.toNat V.undef)).headD V.undef))
 (toL ((toG (l.getD i.toNat V.undef)).tail.headD V.undef)).length then
 some
 (Ex.ret,
 { sl := [(2, V.int IntKind.i64 5), (3, V.int IntKind.i64 left)], hp := [], nx := 0, ob := true, n := 35 })
 else
 bif decide (left ≥ (0 : Int)) then
 bif
 andT true
 (decide
 ((toL ((toG (l.getD i.toNat V.undef)).tail.headD V.undef)).length ≤
 (4611686018427387904 : Nat))) then
 some
 (Ex.normal,
 { sl := [(6, V.rows (Sh.agg [Sh.int IntKind.i64, Sh.bytes]) l), (7, V.int IntKind.i64 n), (8, V.int IntKind.i64 (IntKind.i64.wrap (i + (1 : Int)))), (3, V.int IntKind.i64 (IntKind.i64.wrap (left - if (41 : Int) < lgO (toI ((toG (l.getD i.toNat V.undef)).headD V.undef)) (toL ((toG (l.getD i.toNat V.undef)).tail.headD V.undef)).length then (41 : Int) else lgO (toI ((toG (l.getD i.toNat V.undef)).headD V.undef)) (toL ((toG (l.getD i.toNat V.undef)).tail.headD V.undef)).length))), (2, V.int IntKind.i64 r)], hp := [], nx := 0, ob := true, n := 35 })
 else none
 else
 some
 (Ex.normal,
 { sl := [(6, V.rows (Sh.agg [Sh.int IntKind.i64, Sh.bytes]) l), (7, V.int IntKind.i64 n), (8, V.int IntKind.i64 (IntKind.i64.wrap (i + (1 : Int)))), (3, V.int IntKind.i64 left), (2, V.int IntKind.i64 r)], hp := [], nx := 0, ob := true, n := 35 })
 else none
 else none
 else
 some
 (Ex.exit (0 : Nat),
 { sl := [(2, V.int IntKind.i64 r), (3, V.int IntKind.i64 left)], hp := [], nx := 0, ob := true, n := 35 }) := by kernel_rfl
theorem small_next {l : List V} {k : Nat} (h : k < l.length) (hs : smallL (l.drop k) = true) : (tlP (l.getD k .undef)).2.length ≤ 4611686018427387904 ∧ smallL (l.drop (k + 1)) = true := by
 unfold smallL at hs ⊢
 rw [tls_next h, List.all_cons, Bool.and_eq_true] at hs
 exact ⟨of_decide_eq_true hs.1, hs.2⟩
structure OcS where
 (l : List V)
 (n i left r : Int)
theorem oc_loop : LoopOk Tryz.prog ocC.erase [] ocG := by
 refine loop_ok Etp_ok (d := 6) (AC.flat_ok (by kernel_rfl)) [6, 7, 8, 3, 2] [2, 3] [] ocG (X := OcS) (fun x => ocSt x.l x.n x.i x.left x.r) (fun x => ocT (x.l.drop x.i.toNat) x.left x.r)
  (fun x => (x.n = x.l.length ∧ 0 ≤ x.i ∧ x.i ≤ x.n ∧ x.n ≤ 4611686018427387904 ∧ -41 ≤ x.left ∧ x.left ≤ 40) ∧ smallL (x.l.drop x.i.toNat) = true) (fun x => (x.n - x.i).toNat) ?_ ?_
 ·intro s t h
  obtain ⟨h1, h2, h3, h⟩ := gOf_spec h
  split at h
  ·rename_i l n i left r q1 q2 q3 q4 q5
   injection h with h; injection h with hc ht
   have hc := (Bool.and_eq_true _ _).mp hc
   exact ⟨⟨l, n, i, left, r⟩, .one h1 h2 (by simp [q1, q2, q3, q4, q5]) (by simp), ⟨of_decide_eq_true hc.1, hc.2⟩, ht.symm⟩
  ·cases h
 ·rintro ⟨l, n, i, left, r⟩ ⟨⟨hn, h0, h1, hM, hl, hh⟩, hs⟩
  simp only at hn h0 h1 hM hl hh hs ⊢
  subst hn
  rw [toptCan_b]
  obtain ⟨k, rfl⟩ := Int.eq_ofNat_of_zero_le h0
  simp only [Int.toNat_natCast] at hs ⊢
  by_cases hlt : k < l.length
  ·have hd := tls_next hlt
   obtain ⟨hsm, hs'⟩ := small_next hlt hs
   change _ = (toI ((toG (l.getD k .undef)).headD .undef), toL ((toG (l.getD k .undef)).tail.headD .undef)) :: _ at hd
   change (toL ((toG (l.getD k .undef)).tail.headD .undef)).length ≤ _ at hsm
   obtain ⟨kd, hkd⟩ : ∃ kd, toI ((toG (l.getD k .undef)).headD .undef) = kd := ⟨_, rfl⟩
   obtain ⟨d, hdd⟩ : ∃ d, toL ((toG (l.getD k .undef)).tail.headD .undef) = d := ⟨_, rfl⟩
   simp only [hkd, hdd] at hd hsm ⊢
   by_cases hB : tkB (kd, d)
   ·refine .inr ⟨.ret, ocX 2 left, ?_, nofun, leaf_f (by rw [hd, ocE, if_pos hB]; rfl) (by rw [hd, ocE, ocL, if_pos hB, if_pos hB]; exact .leaf)⟩
    change kd ≤ 0 ∨ 255 < kd at hB
    by_cases a1 : kd ≤ 0
    ·simp (disch := omega) only [tre]
     rfl
    ·simp (disch := omega) only [tre]
     rfl
   ·have hB' : ¬ (kd ≤ 0 ∨ 255 < kd) := hB
    cases hf : fitB kd d.length with
    | false =>
     refine .inr ⟨.ret, ocX 5 left, ?_, nofun, leaf_f (by rw [hd, ocE, if_neg hB, if_pos hf]; rfl) (by rw [hd, ocE, ocL, if_neg hB, if_neg hB, if_pos hf, if_pos hf]; exact .leaf)⟩
     simp (disch := omega) only [tre]
     rfl
    | true =>
     have hf' : ¬ fitB kd d.length = false := by rw [hf]; simp
     have hT : ∀ r, ocT (l.drop k) left r = ocT (l.drop (k + 1)) (ocN left kd d.length) r := by
      intro r
      unfold ocT
      rw [hd, ocE, ocL, if_neg hB, if_neg hB, if_neg hf', if_neg hf']
     have hr := ocN_rng (k := kd) (n := d.length) hl hh
     refine .inl ⟨⟨l, l.length, k + 1, ocN left kd d.length, r⟩, ?_, ⟨⟨rfl, by dsimp only; omega, by dsimp only; omega, hM, hr.1, hr.2⟩, by show smallL (l.drop (k + 1)) = true; exact hs'⟩, by dsimp only; omega, leaf_eq (by show ocT (l.drop (k + 1)) (ocN left kd d.length) r = ocT (l.drop k) left r; exact (hT r).symm)⟩
     have hp := lgO_pos kd d.length
     unfold ocN at hr ⊢
     by_cases hz : left < 0
     ·rw [if_pos hz]
      simp (disch := omega) only [tre]
      rfl
     ·rw [if_neg hz] at hr ⊢
      by_cases hq : lgO kd d.length ≤ 41
      ·rw [if_pos hq] at hr ⊢
       simp (disch := omega) only [tre]
       rw [if_neg (by omega)]
       rfl
      ·rw [if_neg hq] at hr ⊢
       simp (disch := omega) only [tre]
       rw [if_pos (by omega)]
       rfl
  ·have hd : tls (l.drop k) = [] := by rw [List.drop_of_length_le (by omega)]; rfl
   refine .inr ⟨.exit 0, ocX r left, ?_, nofun, leaf_t (by rw [hd]; rfl) (by rw [hd]; exact .leaf)⟩
   simp (disch := omega) only [tre]
   rfl
theorem af_toptCan_ok : AllOk Tryz.prog 141 af_toptCan := .sums Tryz.func141 (by kernel_rfl) (by kernel_rfl) (by kernel_rfl) (by kernel_rfl) (sums_one (c := ocC) (ts := [6, 7, 8, 3, 2]) (by kernel_rfl) (by kernel_rfl) oc_loop)
theorem toptCan_t (l : List V) : callV Etp af_toptCan [.rows (.agg [.int .i64, .bytes]) l] =
 bif
 decide
 ((↑l.length : Int) = (↑l.length : Int) ∧
 (0 : Int) ≤ (0 : Int) ∧
 (0 : Int) ≤ (↑l.length : Int) ∧
 (↑l.length : Int) ≤ (4611686018427387904 : Int) ∧ (-41 : Int) ≤ (40 : Int) ∧ (40 : Int) ≤ (40 : Int)) &&
 smallL (List.drop (0 : Nat) l) then
 bif decide (ocE (tls (List.drop (0 : Nat) l)) = (0 : Int)) then
 bif decide (ocL (40 : Int) (tls (List.drop (0 : Nat) l)) < (0 : Int)) then some (V.int IntKind.i64 8)
 else some (V.int IntKind.i64 0)
 else some (V.int IntKind.i64 (ocE (tls (List.drop (0 : Nat) l))))
 else none := by kernel_rfl
theorem toptCan_v (l : List V) (h : l.length ≤ 4611686018427387904) (hs : smallL l = true) : callV Etp af_toptCan [.rows (.agg [.int .i64, .bytes]) l] = some (.int .i64 (canO (tls l))) := by
 rw [toptCan_t, List.drop_zero, hs]
 unfold canO
 by_cases h1 : ocE (tls l) = 0
 ·by_cases h2 : ocL 40 (tls l) < 0
  ·rw [if_pos h1, if_pos h2]
   simp (disch := omega) only [tre]
  ·rw [if_pos h1, if_neg h2]
   simp (disch := omega) only [tre]
 ·rw [if_neg h1]
  simp (disch := omega) only [tre]
def cToptCan : List V → Option (V × Bool)
 | [.rows (.agg [.int .i64, .bytes]) l] => some (.int .i64 (canO (tls l)), (decide (l.length ≤ 4611686018427387904) && smallL l))
 | _ => none
theorem toptCan_con : ∀ vs v, cToptCan vs = some (v, true) → SpecV Tryz.prog 141 vs v := by
 intro vs v h; unfold cToptCan at h; split at h
 ·rename_i l
  injection h with h; injection h with h hb; subst h
  exact callV_ok Etp_ok af_toptCan_ok (toptCan_v l (of_decide_eq_true ((Bool.and_eq_true _ _).mp hb).1) ((Bool.and_eq_true _ _).mp hb).2)
 ·cases h
def lonO (k : Int) : Int := if k = 1 ∨ k = 4 then 0 else if k = 2 then 2 else if k = 3 then 1 else if k = 8 then 8 else -1
theorem fit_lon (k : Int) (n : Nat) : fitB k n = true ↔ (lonO k < 0 ∨ lonO k = n) := by
 unfold fitB lonO
 split
 ·simp; omega
 ·split
  ·simp; omega
  ·split
   ·simp; omega
   ·split
    ·simp; omega
    ·simp
def rocN (sum k : Int) (n : Nat) : Int := min (sum + (if k = 1 then (-1 : Int) else if (40 : Int) < n then 40 else (n : Int)) + 2) 41
def rocL : Int → List (Int × List UInt8) → Int
 | sum, [] => sum
 | sum, p :: r => if tkB p then sum else if fitB p.1 p.2.length = false then sum else rocL (rocN sum p.1 p.2.length) r
theorem rocN_rng {sum k : Int} {n : Nat} (h1 : 0 ≤ sum) : 0 ≤ rocN sum k n ∧ rocN sum k n ≤ 41 := by
 unfold rocN
 split
 ·omega
 ·split <;> omega
theorem roc_oc : ∀ (L : List (Int × List UInt8)) (left sum : Int), (left < 0 ∧ sum = 41) ∨ (left = 40 - sum ∧ 0 ≤ sum ∧ sum ≤ 40) → (ocL left L < 0 ↔ 40 < rocL sum L)
 | [], left, sum, h => by rw [ocL, rocL]; omega
 | p :: r, left, sum, h => by
  rw [ocL, rocL]
  by_cases h1 : tkB p
  ·rw [if_pos h1, if_pos h1]; omega
  ·rw [if_neg h1, if_neg h1]
   by_cases h2 : fitB p.1 p.2.length = false
   ·rw [if_pos h2, if_pos h2]; omega
   ·rw [if_neg h2, if_neg h2]
    refine roc_oc r _ _ ?_
    unfold ocN rocN lgO
    by_cases hk : p.1 = 1
    ·simp only [if_pos hk]
     split <;> omega
    ·simp only [if_neg hk]
     split <;> split <;> (try split) <;> omega
noncomputable def af_rToptLong : AF := afOf Tryz.prog Tryz.f112 []
theorem af_rToptLong_ok : AllOk Tryz.prog 112 af_rToptLong := .flat Tryz.func112 (by kernel_rfl) (by kernel_rfl) (by kernel_rfl) (by kernel_rfl) (by kernel_rfl)
theorem rToptLong_t (k : Int) : callV Etv0 af_rToptLong [.int .i64 k] =
 bif k == (1 : Int) then some (V.int IntKind.i64 0)
 else
 bif k == (4 : Int) then some (V.int IntKind.i64 0)
 else
 bif k == (2 : Int) then some (V.int IntKind.i64 2)
 else
 bif k == (3 : Int) then some (V.int IntKind.i64 1)
 else bif k == (8 : Int) then some (V.int IntKind.i64 8) else some (V.int IntKind.i64 (-1 : Int)) := by kernel_rfl
theorem rToptLong_v (k : Int) : callV Etv0 af_rToptLong [.int .i64 k] = some (.int .i64 (lonO k)) := by
 rw [rToptLong_t]
 unfold lonO
 by_cases h1 : k = 1
 ·simp (disch := omega) only [tre]
  simp [h1]
 by_cases h4 : k = 4
 ·simp (disch := omega) only [tre]
  simp [h4]
 rw [if_neg (by omega)]
 by_cases h2 : k = 2
 ·rw [if_pos h2]
  simp (disch := omega) only [tre]
 rw [if_neg h2]
 by_cases h3 : k = 3
 ·rw [if_pos h3]
  simp (disch := omega) only [tre]
 rw [if_neg h3]
 by_cases h8 : k = 8
 ·rw [if_pos h8]
  simp (disch := omega) only [tre]
 rw [if_neg h8]
 simp (disch := omega) only [tre]
def cToptLon : List V → Option (V × Bool)
 | [.int .i64 k] => some (.int .i64 (lonO k), true)
 | _ => none
theorem rToptLong_con : ∀ vs v, cToptLon vs = some (v, true) → SpecV Tryz.prog 112 vs v := by
 intro vs v h; unfold cToptLon at h; split at h
 ·rename_i k
  injection h with h; injection h with h hb; subst h
  exact callV_ok Etv0_ok af_rToptLong_ok (rToptLong_v k)
 ·cases h
def roX (e sum : Int) : S := ⟨[(2, .int .i64 e), (3, .int .i64 sum)], [], 0, true, 61⟩
def roT (l : List V) (sum r : Int) : Tr := .br (decide (ocE (tls l) = 0)) (.leaf (.exit 0) (roX r (rocL sum (tls l)))) (.leaf .ret (roX (ocE (tls l)) (rocL sum (tls l))))
def roG : S → Option (Bool × Tr) := gOf 61 0 fun sl _ => match sl 0, sl 4, sl 3, sl 2 with
 | some (.rows (.agg [.int .i64, .bytes]) l), some (.int .i64 i), some (.int .i64 sum), some (.int .i64 r) => some (decide (0 ≤ i ∧ i ≤ l.length ∧ l.length ≤ 4611686018427387904 ∧ 0 ≤ sum ∧ sum ≤ 41), roT (l.drop i.toNat) sum r)
 | _, _, _, _ => none
noncomputable def af_rToptCan : AF := afOf Tryz.prog Tryz.f107 [.sum [0, 4, 3, 2] [] roG]
noncomputable def roC : AC := (af_rToptCan.ac.sums.headD (.skip, [], [], fun _ => none)).1
def roSt (l : List V) (i sum r : Int) : S := ⟨[(0, .rows (.agg [.int .i64, .bytes]) l), (4, .int .i64 i), (3, .int .i64 sum), (2, .int .i64 r)], [], 0, true, 61⟩
noncomputable def GEtpi : List (Nat × Con) := [(112, .val [.int .i64] cToptLon)]
theorem GEtpi_ok : GOk Tryz.prog GEtpi := .cons (enters_of Tryz.func112 (by kernel_rfl) rfl) rToptLong_con <| .nil
noncomputable def IEtpi : List (Nat × AF) := []
theorem IEtpi_ok : IOk Tryz.prog IEtpi := .nil
noncomputable def CEtpi : List (Nat × (List Nat × (S → Option (Bool × Tr)))) := []
theorem CEtpi_ok : COk Tryz.prog CEtpi := .nil
noncomputable def XEtpi : List (Nat × (List Sh × (List V → PT))) := []
theorem XEtpi_ok : XOk Tryz.prog XEtpi := .nil
noncomputable def Etpi : Env := ⟨Tryz.prog, GEtpi, IEtpi, CEtpi, XEtpi, false⟩
theorem Etpi_ok : EnvOk Etpi := ⟨by kernel_rfl, GEtpi_ok, IEtpi_ok, CEtpi_ok, XEtpi_ok⟩
theorem rToptCan_b (l : List V) (i sum r : Int) : aev Etpi (inlN Etpi 6) roC (bodyK [0, 4, 3, 2] [2, 3] []) (roSt l i sum r) =
 bif decide (i < (↑l.length : Int)) then
 bif andT true (inB i l.length) then
 bif decide (toI ((toG (l.getD i.toNat V.undef)).headD V.undef) < (1 : Int)) then
 bif andT true (inB i l.length) then
 some
 (Ex.ret,
 { sl := [(2, V.int IntKind.i64 2), (3, V.int IntKind.i64 sum)], hp := [], nx := 0, ob := true, n := 61 })
 else none
 else
 bif andT (andT true (inB i l.length)) (inB i l.length) then
 bif decide (toI ((toG (l.getD i.toNat V.undef)).headD V.undef) > (255 : Int)) then
 some
 (Ex.ret,
 { sl := [(2, V.int IntKind.i64 2), (3, V.int IntKind.i64 sum)], hp := [], nx := 0, ob := true, n := 61 })
 else
 bif andT true (inB i l.length) then
 bif decide (lonO (toI ((toG (l.getD i.toNat V.undef)).headD V.undef)) ≥ (0 : Int)) then
 bif
 lonO (toI ((toG (l.getD i.toNat V.undef)).headD V.undef)) !=
 (↑(toL ((toG (l.getD i.toNat V.undef)).tail.headD V.undef)).length : Int) then
 some
 (Ex.ret,
 { sl := [(2, V.int IntKind.i64 5), (3, V.int IntKind.i64 sum)], hp := [], nx := 0, ob := true, n := 61 })
 else
 bif
 decide
 ((↑(toL ((toG (l.getD i.toNat V.undef)).tail.headD V.undef)).length : Int) > (40 : Int)) then
 bif andT true (inB i l.length) then
 bif toI ((toG (l.getD i.toNat V.undef)).headD V.undef) == (1 : Int) then
 some
 (Ex.normal,
 { sl := [(0, V.rows (Sh.agg [Sh.int IntKind.i64, Sh.bytes]) l), (4, V.int IntKind.i64 (IntKind.i64.wrap (i + (1 : Int)))), (3, V.int IntKind.i64 (if (41 : Int) < IntKind.i64.wrap (IntKind.i64.wrap (sum + (-1 : Int)) + (2 : Int)) then (41 : Int) else IntKind.i64.wrap (IntKind.i64.wrap (sum + (-1 : Int)) + (2 : Int)))), (2, V.int IntKind.i64 r)], hp := [], nx := 0, ob := true, n := 61 })
 else
 some
 (Ex.normal,
 { sl := [(0, V.rows (Sh.agg [Sh.int IntKind.i64, Sh.bytes]) l), (4, V.int IntKind.i64 (IntKind.i64.wrap (i + (1 : Int)))), (3, V.int IntKind.i64 (if (41 : Int) < IntKind.i64.wrap (IntKind.i64.wrap (sum + (40 : Int)) + (2 : Int)) then (41 : Int) else IntKind.i64.wrap (IntKind.i64.wrap (sum + (40 : Int)) + (2 : Int)))), (2, V.int IntKind.i64 r)], hp := [], nx := 0, ob := true, n := 61 })
 else none
 else
 bif andT true (inB i l.length) then
 bif toI ((toG (l.getD i.toNat V.undef)).headD V.undef) == (1 : Int) then
 some
 (Ex.normal,
 { sl := [(0, V.rows (Sh.agg [Sh.int IntKind.i64, Sh.bytes]) l), (4, V.int IntKind.i64 (IntKind.i64.wrap (i + (1 : Int)))), (3, V.int IntKind.i64 (if (41 : Int) < IntKind.i64.wrap (IntKind.i64.wrap (sum + (-1 : Int)) + (2 : Int)) then (41 : Int) else IntKind.i64.wrap (IntKind.i64.wrap (sum + (-1 : Int)) + (2 : Int)))), (2, V.int IntKind.i64 r)], hp := [], nx := 0, ob := true, n := 61 })
 else
 some
 (Ex.normal,
 { sl := [(0, V.rows (Sh.agg [Sh.int IntKind.i64, Sh.bytes]) l), (4, V.int IntKind.i64 (IntKind.i64.wrap (i + (1 : Int)))), (3, V.int IntKind.i64 (if (41 : Int) < IntKind.i64.wrap (IntKind.i64.wrap (sum + (↑(toL ((toG (l.getD i.toNat V.undef)).tail.headD V.undef)).length : Int)) + (2 : Int)) then (41 : Int) else IntKind.i64.wrap (IntKind.i64.wrap (sum + (↑(toL ((toG (l.getD i.toNat V.undef)).tail.headD V.undef)).length : Int)) + (2 : Int)))), (2, V.int IntKind.i64 r)], hp := [], nx := 0, ob := true, n := 61 })
 else none
 else
 bif decide ((↑(toL ((toG (l.getD i.toNat V.undef)).tail.headD V.undef)).length : Int) > (40 : Int)) then
 bif andT true (inB i l.length) then
 bif toI ((toG (l.getD i.toNat V.undef)).headD V.undef) == (1 : Int) then
 some
 (Ex.normal,
 { sl := [(0, V.rows (Sh.agg [Sh.int IntKind.i64, Sh.bytes]) l), (4, V.int IntKind.i64 (IntKind.i64.wrap (i + (1 : Int)))), (3, V.int IntKind.i64 (if (41 : Int) < IntKind.i64.wrap (IntKind.i64.wrap (sum + (-1 : Int)) + (2 : Int)) then (41 : Int) else IntKind.i64.wrap (IntKind.i64.wrap (sum + (-1 : Int)) + (2 : Int)))), (2, V.int IntKind.i64 r)], hp := [], nx := 0, ob := true, n := 61 })
 else
 some
 (Ex.normal,
 { sl := [(0, V.rows (Sh.agg [Sh.int IntKind.i64, Sh.bytes]) l), (4, V.int IntKind.i64 (IntKind.i64.wrap (i + (1 : Int)))), (3, V.int IntKind.i64 (if (41 : Int) < IntKind.i64.wrap (IntKind.i64.wrap (sum + (40 : Int)) + (2 : Int)) then (41 : Int) else IntKind.i64.wrap (IntKind.i64.wrap (sum + (40 : Int)) + (2 : Int)))), (2, V.int IntKind.i64 r)], hp := [], nx := 0, ob := true, n := 61 })
 else none
 else
 bif andT true (inB i l.length) then
 bif toI ((toG (l.getD i.toNat V.undef)).headD V.undef) == (1 : Int) then
 some
 (Ex.normal,
 { sl := [(0, V.rows (Sh.agg [Sh.int IntKind.i64, Sh.bytes]) l), (4, V.int IntKind.i64 (IntKind.i64.wrap (i + (1 : Int)))), (3, V.int IntKind.i64 (if (41 : Int) < IntKind.i64.wrap (IntKind.i64.wrap (sum + (-1 : Int)) + (2 : Int)) then (41 : Int) else IntKind.i64.wrap (IntKind.i64.wrap (sum + (-1 : Int)) + (2 : Int)))), (2, V.int IntKind.i64 r)], hp := [], nx := 0, ob := true, n := 61 })
 else
 some
 (Ex.normal,
 { sl := [(0, V.rows (Sh.agg [Sh.int IntKind.i64, Sh.bytes]) l), (4, V.int IntKind.i64 (IntKind.i64.wrap (i + (1 : Int)))), (3, V.int IntKind.i64 (if (41 : Int) < IntKind.i64.wrap (IntKind.i64.wrap (sum + (↑(toL ((toG (l.getD i.toNat V.undef)).tail.headD V.undef)).length : Int)) + (2 : Int)) then (41 : Int) else IntKind.i64.wrap (IntKind.i64.wrap (sum + (↑(toL ((toG (l.getD i.toNat V.undef)).tail.headD V.undef)).length : Int)) + (2 : Int)))), (2, V.int IntKind.i64 r)], hp := [], nx := 0, ob := true, n := 61 })
 else none
 else none
 else none
 else none
 else
 some
 (Ex.exit (0 : Nat),
 { sl := [(2, V.int IntKind.i64 r), (3, V.int IntKind.i64 sum)], hp := [], nx := 0, ob := true, n := 61 }) := by kernel_rfl
structure RoS where
 (l : List V)
 (i sum r : Int)
theorem roc_at {sum k c : Int} {n : Nat} (h : (if k = 1 then (-1 : Int) else if (40 : Int) < n then 40 else (n : Int)) = c) : rocN sum k n = if 41 < sum + c + 2 then 41 else sum + c + 2 := by
 unfold rocN
 rw [h]
 split <;> omega
theorem ro_loop : LoopOk Tryz.prog roC.erase [] roG := by
 refine loop_ok Etpi_ok (d := 6) (AC.flat_ok (by kernel_rfl)) [0, 4, 3, 2] [2, 3] [] roG (X := RoS) (fun x => roSt x.l x.i x.sum x.r) (fun x => roT (x.l.drop x.i.toNat) x.sum x.r)
  (fun x => 0 ≤ x.i ∧ x.i ≤ x.l.length ∧ x.l.length ≤ 4611686018427387904 ∧ 0 ≤ x.sum ∧ x.sum ≤ 41) (fun x => (x.l.length - x.i).toNat) ?_ ?_
 ·intro s t h
  obtain ⟨h1, h2, h3, h⟩ := gOf_spec h
  split at h
  ·rename_i l i sum r q1 q2 q3 q4
   injection h with h; injection h with hc ht
   exact ⟨⟨l, i, sum, r⟩, .one h1 h2 (by simp [q1, q2, q3, q4]) (by simp), of_decide_eq_true hc, ht.symm⟩
  ·cases h
 ·rintro ⟨l, i, sum, r⟩ ⟨h0, h1, hM, hl, hh⟩
  simp only at h0 h1 hM hl hh ⊢
  rw [rToptCan_b]
  obtain ⟨k, rfl⟩ := Int.eq_ofNat_of_zero_le h0
  simp only [Int.toNat_natCast]
  by_cases hlt : k < l.length
  ·have hd := tls_next hlt
   change _ = (toI ((toG (l.getD k .undef)).headD .undef), toL ((toG (l.getD k .undef)).tail.headD .undef)) :: _ at hd
   obtain ⟨kd, hkd⟩ : ∃ kd, toI ((toG (l.getD k .undef)).headD .undef) = kd := ⟨_, rfl⟩
   obtain ⟨d, hdd⟩ : ∃ d, toL ((toG (l.getD k .undef)).tail.headD .undef) = d := ⟨_, rfl⟩
   simp only [hkd, hdd] at hd ⊢
   by_cases hB : tkB (kd, d)
   ·refine .inr ⟨.ret, roX 2 sum, ?_, nofun, leaf_f (by rw [hd, ocE, if_pos hB]; rfl) (by rw [hd, ocE, rocL, if_pos hB, if_pos hB]; exact .leaf)⟩
    change kd ≤ 0 ∨ 255 < kd at hB
    by_cases a1 : kd < 1
    ·simp (disch := omega) only [tre]
     rfl
    ·simp (disch := omega) only [tre]
     rfl
   ·have hB' : ¬ (kd ≤ 0 ∨ 255 < kd) := hB
    have hfl := fit_lon kd d.length
    cases hf : fitB kd d.length with
    | false =>
     refine .inr ⟨.ret, roX 5 sum, ?_, nofun, leaf_f (by rw [hd, ocE, if_neg hB, if_pos hf]; rfl) (by rw [hd, ocE, rocL, if_neg hB, if_neg hB, if_pos hf, if_pos hf]; exact .leaf)⟩
     have hno : ¬ (lonO kd < 0 ∨ lonO kd = d.length) := by rw [← hfl, hf]; simp
     simp (disch := omega) only [tre]
     rfl
    | true =>
     have hyes := hfl.1 hf
     have hf' : ¬ fitB kd d.length = false := by rw [hf]; simp
     have hT : ∀ r, roT (l.drop k) sum r = roT (l.drop (k + 1)) (rocN sum kd d.length) r := by
      intro r
      unfold roT
      rw [hd, ocE, rocL, if_neg hB, if_neg hB, if_neg hf', if_neg hf']
     have hr := rocN_rng (k := kd) (n := d.length) hl
     refine .inl ⟨⟨l, k + 1, rocN sum kd d.length, r⟩, ?_, ⟨by dsimp only; omega, by dsimp only; omega, hM, hr.1, hr.2⟩, by dsimp only; omega, leaf_eq (by show roT (l.drop (k + 1)) (rocN sum kd d.length) r = roT (l.drop k) sum r; exact (hT r).symm)⟩
     have hz : lonO kd ≥ 0 ∨ lonO kd < 0 := by omega
     by_cases h1 : kd = 1
     ·rw [roc_at (c := -1) (by rw [if_pos h1])]
      rcases hz with hz | hz
      ·by_cases hq : (d.length : Int) > 40
       ·simp (disch := omega) only [tre]
        rfl
       ·simp (disch := omega) only [tre]
        rfl
      ·by_cases hq : (d.length : Int) > 40
       ·simp (disch := omega) only [tre]
        rfl
       ·simp (disch := omega) only [tre]
        rfl
     ·by_cases hq : (d.length : Int) > 40
      ·rw [roc_at (c := 40) (by rw [if_neg h1, if_pos (by omega)])]
       rcases hz with hz | hz
       ·simp (disch := omega) only [tre]
        rfl
       ·simp (disch := omega) only [tre]
        rfl
      ·rw [roc_at (c := d.length) (by rw [if_neg h1, if_neg (by omega)])]
       rcases hz with hz | hz
       ·simp (disch := omega) only [tre]
        rfl
       ·simp (disch := omega) only [tre]
        rfl
  ·have hd : tls (l.drop k) = [] := by rw [List.drop_of_length_le (by omega)]; rfl
   refine .inr ⟨.exit 0, roX r sum, ?_, nofun, leaf_t (by rw [hd]; rfl) (by rw [hd]; exact .leaf)⟩
   simp (disch := omega) only [tre]
   rfl
theorem af_rToptCan_ok : AllOk Tryz.prog 107 af_rToptCan := .sums Tryz.func107 (by kernel_rfl) (by kernel_rfl) (by kernel_rfl) (by kernel_rfl) (sums_one (c := roC) (ts := [0, 4, 3, 2]) (by kernel_rfl) (by kernel_rfl) ro_loop)
theorem rToptCan_t (l : List V) : callV Etpi af_rToptCan [.rows (.agg [.int .i64, .bytes]) l] =
 bif
 decide
 ((0 : Int) ≤ (0 : Int) ∧
 (0 : Int) ≤ (↑l.length : Int) ∧
 l.length ≤ (4611686018427387904 : Nat) ∧ (0 : Int) ≤ (0 : Int) ∧ (0 : Int) ≤ (41 : Int)) then
 bif decide (ocE (tls (List.drop (0 : Nat) l)) = (0 : Int)) then
 bif decide (rocL (0 : Int) (tls (List.drop (0 : Nat) l)) > (40 : Int)) then some (V.int IntKind.i64 8)
 else some (V.int IntKind.i64 0)
 else some (V.int IntKind.i64 (ocE (tls (List.drop (0 : Nat) l))))
 else none := by kernel_rfl
theorem rToptCan_v (l : List V) (h : l.length ≤ 4611686018427387904) : callV Etpi af_rToptCan [.rows (.agg [.int .i64, .bytes]) l] = some (.int .i64 (canO (tls l))) := by
 rw [rToptCan_t, List.drop_zero]
 unfold canO
 have hr := roc_oc (tls l) 40 0 (.inr ⟨rfl, by omega, by omega⟩)
 by_cases h1 : ocE (tls l) = 0
 ·by_cases h2 : ocL 40 (tls l) < 0
  ·have h3 := hr.1 h2
   rw [if_pos h1, if_pos h2]
   simp (disch := omega) only [tre]
  ·have h3 := mt hr.2 h2
   rw [if_pos h1, if_neg h2]
   simp (disch := omega) only [tre]
 ·rw [if_neg h1]
  simp (disch := omega) only [tre]
def crToptCan : List V → Option (V × Bool)
 | [.rows (.agg [.int .i64, .bytes]) l] => some (.int .i64 (canO (tls l)), decide (l.length ≤ 4611686018427387904))
 | _ => none
theorem rToptCan_con : ∀ vs v, crToptCan vs = some (v, true) → SpecV Tryz.prog 107 vs v := by
 intro vs v h; unfold crToptCan at h; split at h
 ·rename_i l
  injection h with h; injection h with h hb; subst h
  exact callV_ok Etpi_ok af_rToptCan_ok (rToptCan_v l (of_decide_eq_true hb))
 ·cases h
end Go.Proofs.YtfhljcbbgckdiaaGreat
namespace Go.Proofs.YtfhljcbbgckdiaaGreat
open Go Go.Am Go.RowKit Go.Mix Go.Bas
def oneB (p : Int × List UInt8) : List UInt8 := if p.1 = 1 then [b8 p.1] else b8 p.1 :: b8 (2 + p.2.length) :: p.2
def encO : List (Int × List UInt8) → List UInt8
 | [] => []
 | p :: r => oneB p ++ encO r
def zer (n : Nat) : List UInt8 := List.replicate n 0
def n4 (n : Nat) : Nat := (4 - n % 4) % 4
def putO (L : List (Int × List UInt8)) : List UInt8 := if canO L = 0 then encO L ++ zer (n4 (encO L).length) else []
theorem oneB_len (p : Int × List UInt8) : ((oneB p).length : Int) = lgO p.1 p.2.length := by
 unfold oneB lgO
 split
 ·rfl
 ·simp only [List.length_cons]; omega
theorem zer_len (n : Nat) : (zer n).length = n := List.length_replicate
theorem n4_lt (n : Nat) : n4 n < 4 := Nat.mod_lt _ (by omega)
theorem n4_mod (n : Nat) : (n + n4 n) % 4 = 0 := by unfold n4; omega
theorem ocL_len : ∀ (L : List (Int × List UInt8)) (left : Int), left ≤ 40 → ocE L = 0 → 0 ≤ ocL left L → ((encO L).length : Int) ≤ left
 | [], left, _, _, h => by rw [ocL] at h; simpa [encO] using h
 | p :: r, left, h1, h2, h => by
  rw [ocE] at h2; rw [ocL] at h
  split at h2
  ·cases h2
  ·rename_i hb
   rw [if_neg hb] at h
   split at h2
   ·cases h2
   ·rename_i hf
    rw [if_neg hf] at h
    have hp := lgO_pos p.1 p.2.length
    have hn : ocN left p.1 p.2.length ≤ 40 := by unfold ocN; split <;> (try split) <;> omega
    have := ocL_len r _ hn h2 h
    have hl := oneB_len p
    simp only [encO, List.length_append]
    unfold ocN at this
    split at this
    ·omega
    ·split at this <;> omega
theorem canO_spl {L : List (Int × List UInt8)} : canO L = 0 ↔ (ocE L = 0 ∧ 0 ≤ ocL 40 L) := by
 unfold canO
 split
 ·split <;> omega
 ·omega
theorem canO_len {L : List (Int × List UInt8)} (h : canO L = 0) : (encO L).length ≤ 40 := by
 obtain ⟨h1, h2⟩ := canO_spl.1 h
 have := ocL_len L 40 (by omega) h1 h2
 omega
theorem putO_len {L : List (Int × List UInt8)} (h : canO L = 0) : (putO L).length ≤ 40 ∧ (putO L).length % 4 = 0 ∧ (putO L).length ≤ (encO L).length + 3 := by
 have h1 := canO_len h
 have h2 := n4_lt (encO L).length
 have h3 := n4_mod (encO L).length
 unfold putO
 rw [if_pos h]
 simp only [List.length_append, zer_len]
 unfold n4 at *
 omega
end Go.Proofs.YtfhljcbbgckdiaaGreat
namespace Go.Proofs.YtfhljcbbgckdiaaGreat
open Go Go.Am Go.RowKit Go.Mix Go.Bas
set_option maxRecDepth 100000
def growU (t : Nat) (n : Nat) (ob : Option (List UInt8)) (L : List (Int × List UInt8)) : Tr := .br (ob.isNone && noP L) (.leaf (.exit 0) (growS t none [] n)) (.leaf (.exit 0) (growS t (some (ob.getD [] ++ encO L)) [] n))
theorem growU_end (t n : Nat) (ob : Option (List UInt8)) : Leaf (growU t n ob []) (.exit 0) (growS t ob [] n) := by
 cases ob with
 | none => exact leaf_t rfl .leaf
 | some b => exact leaf_f rfl (by rw [encO, List.append_nil]; exact .leaf)
theorem growU_next (t n : Nat) (ob : Option (List UInt8)) (p : Int × List UInt8) (r : List (Int × List UInt8)) : ∀ e s, Leaf (growU t n (some (ob.getD [] ++ oneB p)) r) e s → Leaf (growU t n ob (p :: r)) e s := by
 intro e s h
 have : growU t n (some (ob.getD [] ++ oneB p)) r = .br false (.leaf (.exit 0) (growS t none [] n)) (.leaf (.exit 0) (growS t (some (ob.getD [] ++ encO (p :: r))) [] n)) := by
  unfold growU
  rw [encO, show (some (ob.getD [] ++ oneB p)).getD [] ++ encO r = ob.getD [] ++ (oneB p ++ encO r) by simp]
  rfl
 rw [this] at h
 refine leaf_f ?_ ?_
 ·simp [noP]
 ·cases h with
  | f h => exact h
abbrev opI (l : List V) (n i : Int) (ob : Option (List UInt8)) : Prop := n = l.length ∧ 0 ≤ i ∧ i ≤ n ∧ n ≤ 4611686018427387904 ∧ (ob.getD []).length + (encO (tls (l.drop i.toNat))).length ≤ 1000000
def opSt (l : List V) (n i : Int) (ob : Option (List UInt8)) : S := growS 5 ob [(13, .rows (.agg [.int .i64, .bytes]) l), (14, .int .i64 n), (15, .int .i64 i)] 46
def opG0 : S → Option (Bool × Tr) := gOf 46 0 fun sl _ => match sl 13, sl 14, sl 15, sl 5 with
 | some (.rows (.agg [.int .i64, .bytes]) l), some (.int .i64 n), some (.int .i64 i), some .nils => some (decide (opI l n i none), growU 5 46 none (tls (l.drop i.toNat)))
 | _, _, _, _ => none
def opG1 : S → Option (Bool × Tr) := gOf 46 1 fun sl hp => match sl 13, sl 14, sl 15, sl 5, hp 0 with
 | some (.rows (.agg [.int .i64, .bytes]) l), some (.int .i64 n), some (.int .i64 i), some (.own 0 m (.int .u8)), some (.row T (.int .u8) (.bytes b)) => some (decide (m = b.length ∧ T = 5 ∧ opI l n i (some b)), growU 5 46 (some b) (tls (l.drop i.toNat)))
 | _, _, _, _, _ => none
def padB : Option (List UInt8) → Option (List UInt8)
 | none => none
 | some b => some (b ++ zer (n4 b.length))
def onT (n : Nat) (ob : Option (List UInt8)) : Tr := .leaf (.exit 2) (growS 5 (padB ob) [] n)
def onSt (n : Nat) (ob : Option (List UInt8)) : S := growS 5 ob [] n
def onG0 (n : Nat) : S → Option (Bool × Tr) := gOf n 0 fun sl _ => match sl 5 with
 | some .nils => some (true, onT n none)
 | _ => none
def onG1 (n : Nat) : S → Option (Bool × Tr) := gOf n 1 fun sl hp => match sl 5, hp 0 with
 | some (.own 0 k (.int .u8)), some (.row T (.int .u8) (.bytes b)) => some (decide (k = b.length ∧ T = 5 ∧ b.length + n4 b.length ≤ 1000000), onT n (some b))
 | _, _ => none
noncomputable def af_toptPut : AF := afOf Tryz.prog Tryz.f124 [.sum [13, 14, 15, 5] [] (orG opG0 opG1), .sum [5] [] (orG (onG0 46) (onG1 46))]
noncomputable def opC : AC := (af_toptPut.ac.sums.headD (.skip, [], [], fun _ => none)).1
noncomputable def onC : AC := (af_toptPut.ac.sums.tail.headD (.skip, [], [], fun _ => none)).1
noncomputable def GEtpj : List (Nat × Con) := [(141, .val [.rows (.agg [.int .i64, .bytes])] cToptCan), (107, .val [.rows (.agg [.int .i64, .bytes])] crToptCan), (142, .val [.agg [.int .i64, .bytes]] cToptLong)]
theorem GEtpj_ok : GOk Tryz.prog GEtpj := .cons (enters_of Tryz.func141 (by kernel_rfl) rfl) toptCan_con <| .cons (enters_of Tryz.func107 (by kernel_rfl) rfl) rToptCan_con <| .cons (enters_of Tryz.func142 (by kernel_rfl) rfl) toptLong_con <| .nil
noncomputable def IEtpj : List (Nat × AF) := []
theorem IEtpj_ok : IOk Tryz.prog IEtpj := .nil
noncomputable def CEtpj : List (Nat × (List Nat × (S → Option (Bool × Tr)))) := []
theorem CEtpj_ok : COk Tryz.prog CEtpj := .nil
noncomputable def XEtpj : List (Nat × (List Sh × (List V → PT))) := []
theorem XEtpj_ok : XOk Tryz.prog XEtpj := .nil
noncomputable def Etpj : Env := ⟨Tryz.prog, GEtpj, IEtpj, CEtpj, XEtpj, false⟩
theorem Etpj_ok : EnvOk Etpj := ⟨by kernel_rfl, GEtpj_ok, IEtpj_ok, CEtpj_ok, XEtpj_ok⟩
def ap1 (ob : Option (List UInt8)) (p : Int × List UInt8) : List UInt8 := ob.getD [] ++ [b8 p.1]
def ap2 (ob : Option (List UInt8)) (p : Int × List UInt8) : List UInt8 := ap1 ob p ++ [b8 (lgO p.1 p.2.length)]
theorem toptPut_b (l : List V) (n i : Int) (ob : Option (List UInt8)) : aev Etpj (inlN Etpj 6) opC (bodyK [13, 14, 15, 5] [5] []) (opSt l n i ob) =
  bif decide (i < n) then bif andT true (inB i l.length) then bif andT true (((ap1 ob (tlP (l.getD i.toNat .undef))).length * 1).ble 140737488355328) then
   bif (tlP (l.getD i.toNat .undef)).1 != 1 then
    bif andT (andT (andT true (decide ((tlP (l.getD i.toNat .undef)).2.length ≤ 4611686018427387904))) (((ap2 ob (tlP (l.getD i.toNat .undef))).length * 1).ble 140737488355328)) (((ap2 ob (tlP (l.getD i.toNat .undef)) ++ (tlP (l.getD i.toNat .undef)).2).length * 1).ble 140737488355328) && true then
     some (.normal, opSt l n (IntKind.i64.wrap (i + 1)) (some (ap2 ob (tlP (l.getD i.toNat .undef)) ++ (tlP (l.getD i.toNat .undef)).2))) else none
   else some (.normal, opSt l n (IntKind.i64.wrap (i + 1)) (some (ap1 ob (tlP (l.getD i.toNat .undef)))))
   else none else none else some (.exit 0, growS 5 ob [] 46) := by
 cases ob <;> kernel_rfl
theorem toptPut_n (ob : Option (List UInt8)) : aev Etpj (inlN Etpj 6) onC (bodyK [5] [5] []) (onSt 46 ob) =
  bif decide (((ob.getD []).length : Int).tmod 4 > 0) then bif andT true (((ob.getD [] ++ [0]).length * 1).ble 140737488355328) then some (.normal, onSt 46 (some (ob.getD [] ++ [0]))) else none else some (.exit 2, onSt 46 ob) := by
 cases ob <;> kernel_rfl
structure OpS where
 (l : List V)
 (n i : Int)
 (ob : Option (List UInt8))
theorem ap1_len (ob : Option (List UInt8)) (p : Int × List UInt8) : (ap1 ob p).length = (ob.getD []).length + 1 := by simp [ap1]
theorem ap2_len (ob : Option (List UInt8)) (p : Int × List UInt8) : (ap2 ob p).length = (ob.getD []).length + 2 := by simp [ap2, ap1]
theorem ap1_one {ob : Option (List UInt8)} {p : Int × List UInt8} (h : p.1 = 1) : ap1 ob p = ob.getD [] ++ oneB p := by unfold ap1 oneB; rw [if_pos h]
theorem ap2_one {ob : Option (List UInt8)} {p : Int × List UInt8} (h : ¬ p.1 = 1) : ap2 ob p ++ p.2 = ob.getD [] ++ oneB p := by unfold ap2 ap1 oneB lgO; rw [if_neg h, if_neg h]; simp
theorem op_loop : LoopOk Tryz.prog opC.erase [] (orG opG0 opG1) := by
 refine loop_ok Etpj_ok (d := 6) (AC.flat_ok (by kernel_rfl)) [13, 14, 15, 5] [5] [] (orG opG0 opG1) (X := OpS) (fun x => opSt x.l x.n x.i x.ob) (fun x => growU 5 46 x.ob (tls (x.l.drop x.i.toNat)))
  (fun x => opI x.l x.n x.i x.ob) (fun x => (x.n - x.i).toNat) ?_ ?_
 ·intro s t h
  rcases orG_spec h with h | h
  ·obtain ⟨h1, h2, h3, h⟩ := gOf_spec h
   split at h
   ·rename_i l n i q1 q2 q3 q4
    injection h with h; injection h with hc ht
    exact ⟨⟨l, n, i, none⟩, .one h1 h2 (by simp [q1, q2, q3, q4]) (by simp), of_decide_eq_true hc, ht.symm⟩
   ·cases h
  ·obtain ⟨h1, h2, h3, h⟩ := gOf_spec h
   split at h
   ·rename_i l n i m T b q1 q2 q3 q4 q5
    injection h with h; injection h with hc ht
    obtain ⟨c1, c2, c3⟩ := of_decide_eq_true hc
    subst c1; subst c2
    exact ⟨⟨l, n, i, some b⟩, .one h1 h2 (by simp [q1, q2, q3, q4]) (by simp [q5]), c3, ht.symm⟩
   ·cases h
 ·rintro ⟨l, n, i, ob⟩ ⟨hn, h0, h1, hM, hb⟩
  simp only at hn h0 h1 hM hb ⊢
  subst hn
  rw [toptPut_b]
  obtain ⟨k, rfl⟩ := Int.eq_ofNat_of_zero_le h0
  simp only [Int.toNat_natCast] at hb ⊢
  by_cases hlt : k < l.length
  ·have hd := tls_next hlt
   obtain ⟨p, hp⟩ : ∃ p, tlP (l.getD k .undef) = p := ⟨_, rfl⟩
   simp only [hp] at hd ⊢
   rw [hd, encO, List.length_append] at hb
   have hl := ap1_len ob p
   have hl2 := ap2_len ob p
   have ho := oneB_len p
   have hlg := lgO_pos p.1 p.2.length
   refine .inl ⟨⟨l, l.length, k + 1, some (ob.getD [] ++ oneB p)⟩, ?_, ⟨rfl, by dsimp only; omega, by dsimp only; omega, hM, ?_⟩, by dsimp only; omega, ?_⟩
   ·by_cases h1 : p.1 = 1
    ·rw [← ap1_one h1]
     simp (disch := omega) only [tre]
    ·rw [← ap2_one h1]
     have : ((p.1 : Int) != 1) = true := by simp [h1]
     have hq : lgO p.1 p.2.length = 2 + p.2.length := by unfold lgO; rw [if_neg h1]
     have hq2 : (ap2 ob p ++ p.2).length = (ob.getD []).length + 2 + p.2.length := by rw [List.length_append, hl2]
     simp (disch := omega) only [tre]
   ·show (ob.getD [] ++ oneB p).length + (encO (tls (l.drop (k + 1)))).length ≤ 1000000
    rw [List.length_append]
    omega
   ·intro e s h
    show Leaf (growU 5 46 ob (tls (l.drop k))) e s
    rw [hd]
    exact growU_next _ _ _ _ _ e s h
  ·have hd : tls (l.drop k) = [] := by rw [List.drop_of_length_le (by omega)]; rfl
   refine .inr ⟨.exit 0, growS 5 ob [] 46, ?_, nofun, by rw [hd]; exact growU_end _ _ _⟩
   simp (disch := omega) only [tre]
theorem n4_next {n : Nat} (h : 0 < n % 4) : n4 n = n4 (n + 1) + 1 := by unfold n4; omega
theorem n4_zero {n : Nat} (h : n % 4 = 0) : n4 n = 0 := by unfold n4; omega
theorem padB_next {b : List UInt8} (h : 0 < b.length % 4) : padB (some (b ++ [0])) = padB (some b) := by
 show some ((b ++ [0]) ++ zer (n4 (b ++ [(0 : UInt8)]).length)) = some (b ++ zer (n4 b.length))
 rw [n4_next h]
 simp [zer, List.replicate_succ]
theorem padB_end {ob : Option (List UInt8)} (h : (ob.getD []).length % 4 = 0) : padB ob = ob := by
 cases ob with
 | none => rfl
 | some b =>
  show some (b ++ zer (n4 b.length)) = some b
  rw [n4_zero (show b.length % 4 = 0 from h)]; simp [zer]
abbrev onI (ob : Option (List UInt8)) : Prop := (ob.getD []).length + n4 (ob.getD []).length ≤ 1000000
theorem onG_state {n : Nat} {s : S} {t : Tr} (h : orG (onG0 n) (onG1 n) s = some (true, t)) : ∃ ob : Option (List UInt8), Covers s (onSt n ob) ∧ onI ob ∧ t = onT n ob := by
 rcases orG_spec h with h | h
 ·obtain ⟨h1, h2, h3, h⟩ := gOf_spec h
  split at h
  ·rename_i q1
   injection h with h; injection h with hc ht
   exact ⟨none, .one h1 h2 (by simp [q1]) (by simp), by decide, ht.symm⟩
  ·cases h
 ·obtain ⟨h1, h2, h3, h⟩ := gOf_spec h
  split at h
  ·rename_i m T b q1 q2
   injection h with h; injection h with hc ht
   obtain ⟨c1, c2, c3⟩ := of_decide_eq_true hc
   subst c1; subst c2
   exact ⟨some b, .one h1 h2 (by simp [q1]) (by simp [q2]), c3, ht.symm⟩
  ·cases h
theorem on_loop : LoopOk Tryz.prog onC.erase [] (orG (onG0 46) (onG1 46)) := by
 refine loop_ok Etpj_ok (d := 6) (AC.flat_ok (by kernel_rfl)) [5] [5] [] (orG (onG0 46) (onG1 46)) (X := Option (List UInt8)) (fun x => onSt 46 x) (fun x => onT 46 x)
  (fun x => onI x) (fun x => n4 (x.getD []).length) ?_ ?_
 ·intro s t h
  exact onG_state h
 ·intro ob hI
  rw [toptPut_n]
  have hx : (((ob.getD []).length : Int)).tmod 4 = (((ob.getD []).length % 4 : Nat) : Int) := by
   rw [tmd (by omega)]; omega
  rw [hx]
  by_cases hlt : 0 < (ob.getD []).length % 4
  ·have hn := n4_next hlt
   refine .inl ⟨some (ob.getD [] ++ [0]), ?_, ?_, ?_, ?_⟩
   ·have : (ob.getD [] ++ [(0 : UInt8)]).length = (ob.getD []).length + 1 := by simp
    unfold onI at hI
    simp (disch := omega) only [tre]
   ·show (ob.getD [] ++ [(0 : UInt8)]).length + n4 (ob.getD [] ++ [(0 : UInt8)]).length ≤ 1000000
    unfold onI at hI
    simp only [List.length_append, List.length_cons, List.length_nil, Nat.zero_add]
    omega
   ·show n4 (ob.getD [] ++ [(0 : UInt8)]).length < n4 (ob.getD []).length
    simp only [List.length_append, List.length_cons, List.length_nil, Nat.zero_add]
    omega
   ·intro e s h
    cases ob with
    | none => simp at hlt
    | some b => unfold onT at h ⊢; simp only [Option.getD_some] at h hlt ⊢; rw [padB_next hlt] at h; exact h
  ·refine .inr ⟨.exit 2, onSt 46 ob, ?_, nofun, by unfold onT; rw [padB_end (by omega)]; exact .leaf⟩
   simp (disch := omega) only [tre]
theorem af_toptPut_ok : AllOk Tryz.prog 124 af_toptPut := .sums Tryz.func124 (by kernel_rfl) (by kernel_rfl) (by kernel_rfl) (by kernel_rfl) (sums_two (c := opC) (c2 := onC) (ts := [13, 14, 15, 5]) (ts2 := [5]) (by kernel_rfl) (by kernel_rfl) op_loop on_loop)
theorem toptPut_t (l : List V) : callV Etpj af_toptPut [.rows (.agg [.int .i64, .bytes]) l] =
 bif andT true (decide (l.length ≤ (4611686018427387904 : Nat)) && smallL l) then
 bif canO (tls l) != (0 : Int) then some (V.tup [V.ownv (5 : Nat) (V.bytes []), V.int IntKind.i64 (canO (tls l))])
 else
 bif
 decide
 ((↑l.length : Int) = (↑l.length : Int) ∧
 (0 : Int) ≤ (0 : Int) ∧
 (0 : Int) ≤ (↑l.length : Int) ∧
 (↑l.length : Int) ≤ (4611686018427387904 : Int) ∧
 (0 : Nat) + (encO (tls (List.drop (0 : Nat) l))).length ≤ (1000000 : Nat)) then
 bif noP (tls (List.drop (0 : Nat) l)) then
 some (V.tup [V.ownv (5 : Nat) (V.bytes []), V.int IntKind.i64 0])
 else
 bif
 decide
 (([] ++ encO (tls (List.drop (0 : Nat) l))).length = ([] ++ encO (tls (List.drop (0 : Nat) l))).length ∧
 (5 : Nat) = (5 : Nat) ∧
 ([] ++ encO (tls (List.drop (0 : Nat) l))).length +
 n4 ([] ++ encO (tls (List.drop (0 : Nat) l))).length ≤
 (1000000 : Nat)) then
 some
 (V.tup
 [V.ownv (5 : Nat)
 (V.bytes
 ([] ++ encO (tls (List.drop (0 : Nat) l)) ++
 zer (n4 ([] ++ encO (tls (List.drop (0 : Nat) l))).length))),
 V.int IntKind.i64 0])
 else none
 else none
 else none := by kernel_rfl
theorem putO_ok {L : List (Int × List UInt8)} (h : canO L = 0) : putO L = encO L ++ zer (n4 (encO L).length) := by unfold putO; rw [if_pos h]
theorem putO_no {L : List (Int × List UInt8)} (h : ¬ canO L = 0) : putO L = [] := by unfold putO; rw [if_neg h]
theorem toptPut_v (l : List V) (h : l.length ≤ 4611686018427387904) (hs : smallL l = true) : callV Etpj af_toptPut [.rows (.agg [.int .i64, .bytes]) l] = some (.tup [.ownv 5 (.bytes (putO (tls l))), .int .i64 (canO (tls l))]) := by
 rw [toptPut_t]
 simp only [List.drop_zero, List.nil_append]
 rw [hs]
 by_cases h0 : canO (tls l) = 0
 ·have he := canO_len h0
  have hn := n4_lt (encO (tls l)).length
  rw [putO_ok h0, h0]
  cases hp : noP (tls l) with
  | true =>
   have e : tls l = [] := List.isEmpty_iff.1 hp
   simp (disch := omega) only [tre]
   rw [e]
   rfl
  | false =>
   simp (disch := omega) only [tre]
 ·rw [putO_no h0]
  simp (disch := omega) only [tre]
def cToptPut : List V → Option (V × Bool)
 | [.rows (.agg [.int .i64, .bytes]) l] => some (.tup [.ownv 5 (.bytes (putO (tls l))), .int .i64 (canO (tls l))], (decide (l.length ≤ 4611686018427387904) && smallL l))
 | _ => none
theorem toptPut_con : ∀ vs v, cToptPut vs = some (v, true) → SpecV Tryz.prog 124 vs v := by
 intro vs v h; unfold cToptPut at h; split at h
 ·rename_i l
  injection h with h; injection h with h hb; subst h
  exact callV_ok Etpj_ok af_toptPut_ok (toptPut_v l (of_decide_eq_true ((Bool.and_eq_true _ _).mp hb).1) ((Bool.and_eq_true _ _).mp hb).2)
 ·cases h
def orSt (l : List V) (i : Int) (ob : Option (List UInt8)) : S := growS 5 ob [(0, .rows (.agg [.int .i64, .bytes]) l), (6, .int .i64 i)] 59
def orG0 : S → Option (Bool × Tr) := gOf 59 0 fun sl _ => match sl 0, sl 6, sl 5 with
 | some (.rows (.agg [.int .i64, .bytes]) l), some (.int .i64 i), some .nils => some (decide (opI l l.length i none), growU 5 59 none (tls (l.drop i.toNat)))
 | _, _, _ => none
def orG1 : S → Option (Bool × Tr) := gOf 59 1 fun sl hp => match sl 0, sl 6, sl 5, hp 0 with
 | some (.rows (.agg [.int .i64, .bytes]) l), some (.int .i64 i), some (.own 0 m (.int .u8)), some (.row T (.int .u8) (.bytes b)) => some (decide (m = b.length ∧ T = 5 ∧ opI l l.length i (some b)), growU 5 59 (some b) (tls (l.drop i.toNat)))
 | _, _, _, _ => none
noncomputable def af_rToptPut : AF := afOf Tryz.prog Tryz.f82 [.sum [0, 6, 5] [] (orG orG0 orG1), .sum [5] [] (orG (onG0 59) (onG1 59))]
noncomputable def orC : AC := (af_rToptPut.ac.sums.headD (.skip, [], [], fun _ => none)).1
noncomputable def orD : AC := (af_rToptPut.ac.sums.tail.headD (.skip, [], [], fun _ => none)).1
def ar2 (ob : Option (List UInt8)) (p : Int × List UInt8) : List UInt8 := ap1 ob p ++ [b8 (IntKind.i64.wrap (p.2.length + 2))]
theorem rToptPut_b (l : List V) (i : Int) (ob : Option (List UInt8)) : aev Etpj (inlN Etpj 6) orC (bodyK [0, 6, 5] [5] []) (orSt l i ob) =
  bif decide (i < l.length) then bif andT (andT true (inB i l.length)) (((ap1 ob (tlP (l.getD i.toNat .undef))).length * 1).ble 140737488355328) then bif andT true (inB i l.length) then
   bif (tlP (l.getD i.toNat .undef)).1 != 1 then
    bif andT (andT true (inB i l.length)) (((ar2 ob (tlP (l.getD i.toNat .undef))).length * 1).ble 140737488355328) then bif andT (andT true (inB i l.length)) (((ar2 ob (tlP (l.getD i.toNat .undef)) ++ (tlP (l.getD i.toNat .undef)).2).length * 1).ble 140737488355328) then
     some (.normal, orSt l (IntKind.i64.wrap (i + 1)) (some (ar2 ob (tlP (l.getD i.toNat .undef)) ++ (tlP (l.getD i.toNat .undef)).2))) else none else none
   else some (.normal, orSt l (IntKind.i64.wrap (i + 1)) (some (ap1 ob (tlP (l.getD i.toNat .undef)))))
   else none else none else some (.exit 0, growS 5 ob [] 59) := by
 cases ob <;> kernel_rfl
theorem rToptPut_n (ob : Option (List UInt8)) : aev Etpj (inlN Etpj 6) orD (bodyK [5] [5] []) (onSt 59 ob) =
  bif ((ob.getD []).length : Int).tmod 4 != 0 then bif andT true (((ob.getD [] ++ [0]).length * 1).ble 140737488355328) then some (.normal, onSt 59 (some (ob.getD [] ++ [0]))) else none else some (.exit 2, onSt 59 ob) := by
 cases ob <;> kernel_rfl
structure OrS where
 (l : List V)
 (i : Int)
 (ob : Option (List UInt8))
theorem or_loop : LoopOk Tryz.prog orC.erase [] (orG orG0 orG1) := by
 refine loop_ok Etpj_ok (d := 6) (AC.flat_ok (by kernel_rfl)) [0, 6, 5] [5] [] (orG orG0 orG1) (X := OrS) (fun x => orSt x.l x.i x.ob) (fun x => growU 5 59 x.ob (tls (x.l.drop x.i.toNat)))
  (fun x => opI x.l x.l.length x.i x.ob) (fun x => (x.l.length - x.i).toNat) ?_ ?_
 ·intro s t h
  rcases orG_spec h with h | h
  ·obtain ⟨h1, h2, h3, h⟩ := gOf_spec h
   split at h
   ·rename_i l i q1 q2 q3
    injection h with h; injection h with hc ht
    exact ⟨⟨l, i, none⟩, .one h1 h2 (by simp [q1, q2, q3]) (by simp), of_decide_eq_true hc, ht.symm⟩
   ·cases h
  ·obtain ⟨h1, h2, h3, h⟩ := gOf_spec h
   split at h
   ·rename_i l i m T b q1 q2 q3 q4
    injection h with h; injection h with hc ht
    obtain ⟨c1, c2, c3⟩ := of_decide_eq_true hc
    subst c1; subst c2
    exact ⟨⟨l, i, some b⟩, .one h1 h2 (by simp [q1, q2, q3]) (by simp [q4]), c3, ht.symm⟩
   ·cases h
 ·rintro ⟨l, i, ob⟩ ⟨-, h0, h1, hM, hb⟩
  simp only at h0 h1 hM hb ⊢
  rw [rToptPut_b]
  obtain ⟨k, rfl⟩ := Int.eq_ofNat_of_zero_le h0
  simp only [Int.toNat_natCast] at hb ⊢
  by_cases hlt : k < l.length
  ·have hd := tls_next hlt
   obtain ⟨p, hp⟩ : ∃ p, tlP (l.getD k .undef) = p := ⟨_, rfl⟩
   simp only [hp] at hd ⊢
   rw [hd, encO, List.length_append] at hb
   have hl := ap1_len ob p
   have hl2 := ap2_len ob p
   have ho := oneB_len p
   have hlg := lgO_pos p.1 p.2.length
   refine .inl ⟨⟨l, k + 1, some (ob.getD [] ++ oneB p)⟩, ?_, ⟨rfl, by dsimp only; omega, by dsimp only; omega, hM, ?_⟩, by dsimp only; omega, ?_⟩
   ·by_cases h1 : p.1 = 1
    ·rw [← ap1_one h1]
     simp (disch := omega) only [tre]
    ·have hq : lgO p.1 p.2.length = 2 + p.2.length := by unfold lgO; rw [if_neg h1]
     have ha : ar2 ob p = ap2 ob p := by unfold ar2 ap2; rw [hq, w64 (by omega) (by omega), Int.add_comm]
     rw [← ap2_one h1, ha]
     have : ((p.1 : Int) != 1) = true := by simp [h1]
     have hq2 : (ap2 ob p ++ p.2).length = (ob.getD []).length + 2 + p.2.length := by rw [List.length_append, hl2]
     simp (disch := omega) only [tre]
   ·show (ob.getD [] ++ oneB p).length + (encO (tls (l.drop (k + 1)))).length ≤ 1000000
    rw [List.length_append]
    omega
   ·intro e s h
    show Leaf (growU 5 59 ob (tls (l.drop k))) e s
    rw [hd]
    exact growU_next _ _ _ _ _ e s h
  ·have hd : tls (l.drop k) = [] := by rw [List.drop_of_length_le (by omega)]; rfl
   refine .inr ⟨.exit 0, growS 5 ob [] 59, ?_, nofun, by rw [hd]; exact growU_end _ _ _⟩
   simp (disch := omega) only [tre]
theorem od_loop : LoopOk Tryz.prog orD.erase [] (orG (onG0 59) (onG1 59)) := by
 refine loop_ok Etpj_ok (d := 6) (AC.flat_ok (by kernel_rfl)) [5] [5] [] (orG (onG0 59) (onG1 59)) (X := Option (List UInt8)) (fun x => onSt 59 x) (fun x => onT 59 x)
  (fun x => onI x) (fun x => n4 (x.getD []).length) ?_ ?_
 ·intro s t h
  exact onG_state h
 ·intro ob hI
  rw [rToptPut_n]
  have hx : (((ob.getD []).length : Int)).tmod 4 = (((ob.getD []).length % 4 : Nat) : Int) := by
   rw [tmd (by omega)]; omega
  rw [hx]
  by_cases hlt : 0 < (ob.getD []).length % 4
  ·have hn := n4_next hlt
   refine .inl ⟨some (ob.getD [] ++ [0]), ?_, ?_, ?_, ?_⟩
   ·have : (ob.getD [] ++ [(0 : UInt8)]).length = (ob.getD []).length + 1 := by simp
    unfold onI at hI
    simp (disch := omega) only [tre]
   ·show (ob.getD [] ++ [(0 : UInt8)]).length + n4 (ob.getD [] ++ [(0 : UInt8)]).length ≤ 1000000
    unfold onI at hI
    simp only [List.length_append, List.length_cons, List.length_nil, Nat.zero_add]
    omega
   ·show n4 (ob.getD [] ++ [(0 : UInt8)]).length < n4 (ob.getD []).length
    simp only [List.length_append, List.length_cons, List.length_nil, Nat.zero_add]
    omega
   ·intro e s h
    cases ob with
    | none => simp at hlt
    | some b => unfold onT at h ⊢; simp only [Option.getD_some] at h hlt ⊢; rw [padB_next hlt] at h; exact h
  ·refine .inr ⟨.exit 2, onSt 59 ob, ?_, nofun, by unfold onT; rw [padB_end (by omega)]; exact .leaf⟩
   simp (disch := omega) only [tre]
theorem af_rToptPut_ok : AllOk Tryz.prog 82 af_rToptPut := .sums Tryz.func82 (by kernel_rfl) (by kernel_rfl) (by kernel_rfl) (by kernel_rfl) (sums_two (c := orC) (c2 := orD) (ts := [0, 6, 5]) (ts2 := [5]) (by kernel_rfl) (by kernel_rfl) or_loop od_loop)
theorem rToptPut_t (l : List V) : callV Etpj af_rToptPut [.rows (.agg [.int .i64, .bytes]) l] =
 bif andT true (decide (l.length ≤ (4611686018427387904 : Nat))) then
 bif canO (tls l) != (0 : Int) then some (V.tup [V.ownv (5 : Nat) (V.bytes []), V.int IntKind.i64 (canO (tls l))])
 else
 bif
 decide
 ((↑l.length : Int) = (↑l.length : Int) ∧
 (0 : Int) ≤ (0 : Int) ∧
 (0 : Int) ≤ (↑l.length : Int) ∧
 (↑l.length : Int) ≤ (4611686018427387904 : Int) ∧
 (0 : Nat) + (encO (tls (List.drop (0 : Nat) l))).length ≤ (1000000 : Nat)) then
 bif noP (tls (List.drop (0 : Nat) l)) then
 some (V.tup [V.ownv (5 : Nat) (V.bytes []), V.int IntKind.i64 0])
 else
 bif
 decide
 (([] ++ encO (tls (List.drop (0 : Nat) l))).length = ([] ++ encO (tls (List.drop (0 : Nat) l))).length ∧
 (5 : Nat) = (5 : Nat) ∧
 ([] ++ encO (tls (List.drop (0 : Nat) l))).length +
 n4 ([] ++ encO (tls (List.drop (0 : Nat) l))).length ≤
 (1000000 : Nat)) then
 some
 (V.tup
 [V.ownv (5 : Nat)
 (V.bytes
 ([] ++ encO (tls (List.drop (0 : Nat) l)) ++
 zer (n4 ([] ++ encO (tls (List.drop (0 : Nat) l))).length))),
 V.int IntKind.i64 0])
 else none
 else none
 else none := by kernel_rfl
theorem rToptPut_v (l : List V) (h : l.length ≤ 4611686018427387904) : callV Etpj af_rToptPut [.rows (.agg [.int .i64, .bytes]) l] = some (.tup [.ownv 5 (.bytes (putO (tls l))), .int .i64 (canO (tls l))]) := by
 rw [rToptPut_t]
 simp only [List.drop_zero, List.nil_append]
 by_cases h0 : canO (tls l) = 0
 ·have he := canO_len h0
  have hn := n4_lt (encO (tls l)).length
  rw [putO_ok h0, h0]
  cases hp : noP (tls l) with
  | true =>
   have e : tls l = [] := List.isEmpty_iff.1 hp
   simp (disch := omega) only [tre]
   rw [e]
   rfl
  | false =>
   simp (disch := omega) only [tre]
 ·rw [putO_no h0]
  simp (disch := omega) only [tre]
def crToptPut : List V → Option (V × Bool)
 | [.rows (.agg [.int .i64, .bytes]) l] => some (.tup [.ownv 5 (.bytes (putO (tls l))), .int .i64 (canO (tls l))], decide (l.length ≤ 4611686018427387904))
 | _ => none
theorem rToptPut_con : ∀ vs v, crToptPut vs = some (v, true) → SpecV Tryz.prog 82 vs v := by
 intro vs v h; unfold crToptPut at h; split at h
 ·rename_i l
  injection h with h; injection h with h hb; subst h
  exact callV_ok Etpj_ok af_rToptPut_ok (rToptPut_v l (of_decide_eq_true hb))
 ·cases h
def parLt (b : List UInt8) : List V := (parO b).2.map tlV
def parE (b : List UInt8) : Int := (parO b).1
def rzX : S := ⟨[], [], 0, true, 98⟩
def rzR : S := ⟨[(4, .nils), (5, .int .i64 5)], [], 0, true, 98⟩
def rzT (b : List UInt8) : Tr := .br (zeros b) (.leaf (.exit 0) rzX) (.leaf .ret rzR)
def rzG : S → Option (Bool × Tr) := gOf 98 0 fun sl _ => match sl 0, sl 6 with
 | some (.bytes b), some (.int .i64 i) => some (decide (0 ≤ i ∧ i ≤ b.length ∧ b.length ≤ 4611686018427387904), rzT (b.drop i.toNat))
 | _, _ => none
noncomputable def af_rToptRest : AF := afOf Tryz.prog Tryz.f93 [.sum [0, 6] [] rzG]
noncomputable def rzC : AC := (af_rToptRest.ac.sums.headD (.skip, [], [], fun _ => none)).1
def rzSt (b : List UInt8) (i : Int) : S := ⟨[(0, .bytes b), (6, .int .i64 i)], [], 0, true, 98⟩
theorem rz_b (b : List UInt8) (i : Int) : aev Etv0 (inlN Etv0 6) rzC (bodyF (Am.ways [0, 6] [] [4, 5]) []) (rzSt b i) =
 bif decide (i < (↑b.length : Int)) then
 bif andT true (inB i b.length) then
 bif gt b i.toNat != (0 : Int) then
 some
 (Ex.ret,
 { sl := [(4, V.nils), (5, V.int IntKind.i64 5)], hp := [], nx := 0, ob := true, n := 98 })
 else
 some
 (Ex.normal,
 { sl := [(0, V.bytes b), (6, V.int IntKind.i64 (IntKind.i64.wrap (i + (1 : Int))))], hp := [], nx := 0, ob := true, n := 98 })
 else none
 else some (Ex.exit (0 : Nat), { sl := [], hp := [], nx := 0, ob := true, n := 98 }) := by kernel_rfl
theorem rz_loop : LoopOk Tryz.prog rzC.erase [] rzG := by
 refine loopF_ok Etv0_ok (d := 6) (AC.flat_ok (by kernel_rfl)) (Am.ways [0, 6] [] [4, 5]) [] rzG (X := List UInt8 × Int) (fun x => rzSt x.1 x.2) (fun x => rzT (x.1.drop x.2.toNat)) (fun x => 0 ≤ x.2 ∧ x.2 ≤ x.1.length ∧ x.1.length ≤ 4611686018427387904) (fun x => (x.1.length - x.2).toNat) ?_ ?_
 ·intro s t h
  obtain ⟨h1, h2, h3, h⟩ := gOf_spec h
  split at h
  ·rename_i b i q1 q2
   injection h with h; injection h with hc ht
   exact ⟨(b, i), .one h1 h2 (by simp [q1, q2]) (by simp), of_decide_eq_true hc, ht.symm⟩
  ·cases h
 ·rintro ⟨b, i⟩ ⟨h0, h1, hM⟩
  simp only at h0 h1 hM ⊢
  rw [rz_b]
  obtain ⟨k, rfl⟩ := Int.eq_ofNat_of_zero_le h0
  simp only [Int.toNat_natCast]
  by_cases hlt : k < b.length
  ·have hg : gt (b.drop k) 0 = gt b k := gt_drop b k 0
   by_cases hz : gt b k = 0
   ·have e : zeros (b.drop k) = zeros (b.drop (k + 1)) := by
     rw [List.drop_eq_getElem_cons hlt]
     unfold zeros
     rw [List.all_cons]
     have : b[k] = 0 := by
      rw [gt_of_lt hlt] at hz
      exact UInt8.toNat_inj.mp (by simpa using hz)
     rw [this]
     simp
    refine .inl ⟨(b, k + 1), ?_, ⟨by dsimp only; omega, by dsimp only; omega, hM⟩, by dsimp only; omega, fun e' s h => ?_⟩
    ·simp (disch := omega) only [tre]
     rfl
    ·unfold rzT at h ⊢
     rw [e]
     exact h
   ·have e : zeros (b.drop k) = false := zeros_false (j := 0) (by rw [hg]; exact hz) (by rw [List.length_drop]; omega)
    refine .inr ⟨.ret, rzR, ?_, nofun, leaf_f e .leaf⟩
    simp (disch := omega) only [tre]
    rfl
  ·refine .inr ⟨.exit 0, rzX, ?_, nofun, leaf_t (by rw [List.drop_of_length_le (by omega)]; rfl) .leaf⟩
   simp (disch := omega) only [tre]
   rfl
theorem af_rToptRest_ok : AllOk Tryz.prog 93 af_rToptRest := .sums Tryz.func93 (by kernel_rfl) (by kernel_rfl) (by kernel_rfl) (by kernel_rfl) (sums_one (c := rzC) (ts := [0, 6]) (by kernel_rfl) (by kernel_rfl) rz_loop)
def cRest (k : Nat) : List V → Option (V × Bool)
 | [.bytes b, .int .i64 i] => some (.tup [.ownv 181 (.rows (.agg [.int .i64, .bytes]) (parLt (b.drop i.toNat))), .int .i64 (parE (b.drop i.toNat))], decide (0 ≤ i ∧ i ≤ b.length ∧ b.length ≤ 40 ∧ b.length - i < k))
 | _ => none
noncomputable def Er (k : Nat) : Env := ⟨Tryz.prog, [(112, .val [.int .i64] cToptLon), (93, .val [.bytes, .int .i64] (cRest k))], [], [], [], false⟩
theorem Er_ok {k : Nat} (h : ∀ vs v, cRest k vs = some (v, true) → SpecV Tryz.prog 93 vs v) : EnvOk (Er k) :=
 ⟨by kernel_rfl, .cons (enters_of Tryz.func112 (by kernel_rfl) rfl) rToptLong_con <| .cons (enters_of Tryz.func93 (by kernel_rfl) rfl) h <| .nil, IOk.nil, COk.nil, XOk.nil⟩
theorem rToptRest_t (k : Nat) (b : List UInt8) (i : Int) : callV (Er k) af_rToptRest [.bytes b, .int .i64 i] = bif decide (i ≥ (↑b.length : Int)) then some (V.tup [V.ownv 181 (V.rows (Sh.agg [Sh.int IntKind.i64, Sh.bytes]) []), V.int IntKind.i64 0]) else bif andT true (inB i b.length) then bif gt b i.toNat == (0 : Int) then bif decide ((0 : Int) ≤ i ∧ i ≤ (↑b.length : Int) ∧ b.length ≤ (4611686018427387904 : Nat)) then bif zeros (List.drop i.toNat b) then some (V.tup [V.ownv 181 (V.rows (Sh.agg [Sh.int IntKind.i64, Sh.bytes]) []), V.int IntKind.i64 0]) else some (V.tup [V.ownv 181 (V.rows (Sh.agg [Sh.int IntKind.i64, Sh.bytes]) []), V.int IntKind.i64 5]) else none else bif andT true (inB i b.length) then bif IntKind.i64.wrap (gt b i.toNat) != (1 : Int) then bif i == IntKind.i64.wrap ((↑b.length : Int) - (1 : Int)) then some (V.tup [V.ownv 181 (V.rows (Sh.agg [Sh.int IntKind.i64, Sh.bytes]) []), V.int IntKind.i64 3]) else bif andT true (inB (IntKind.i64.wrap (i + (1 : Int))) b.length) then bif decide (IntKind.i64.wrap (gt b (IntKind.i64.wrap (i + (1 : Int))).toNat) < (2 : Int)) then some (V.tup [V.ownv 181 (V.rows (Sh.agg [Sh.int IntKind.i64, Sh.bytes]) []), V.int IntKind.i64 5]) else bif decide (IntKind.i64.wrap (gt b (IntKind.i64.wrap (i + (1 : Int))).toNat) > IntKind.i64.wrap ((↑b.length : Int) - i)) then some (V.tup [V.ownv 181 (V.rows (Sh.agg [Sh.int IntKind.i64, Sh.bytes]) []), V.int IntKind.i64 3]) else bif andT (andT true (Am.inC (IntKind.i64.wrap (i + (2 : Int))) (IntKind.i64.wrap (i + IntKind.i64.wrap (gt b (IntKind.i64.wrap (i + (1 : Int))).toNat))).toNat && Am.inC (IntKind.i64.wrap (i + IntKind.i64.wrap (gt b (IntKind.i64.wrap (i + (1 : Int))).toNat))) b.length)) (((cutL b (IntKind.i64.wrap (i + (2 : Int))).toNat (IntKind.i64.wrap (i + IntKind.i64.wrap (gt b (IntKind.i64.wrap (i + (1 : Int))).toNat))).toNat).length * (1 : Nat)).ble (140737488355328 : Nat)) && true then bif decide (lonO (IntKind.i64.wrap (gt b i.toNat)) ≥ (0 : Int)) then bif lonO (IntKind.i64.wrap (gt b i.toNat)) != IntKind.i64.wrap (IntKind.i64.wrap (gt b (IntKind.i64.wrap (i + (1 : Int))).toNat) - (2 : Int)) then some (V.tup [V.ownv 181 (V.rows (Sh.agg [Sh.int IntKind.i64, Sh.bytes]) []), V.int IntKind.i64 5]) else bif andT true (decide ((0 : Int) ≤ IntKind.i64.wrap (i + IntKind.i64.wrap (gt b (IntKind.i64.wrap (i + (1 : Int))).toNat)) ∧ IntKind.i64.wrap (i + IntKind.i64.wrap (gt b (IntKind.i64.wrap (i + (1 : Int))).toNat)) ≤ (↑b.length : Int) ∧ b.length ≤ (40 : Nat) ∧ (↑b.length : Int) - IntKind.i64.wrap (i + IntKind.i64.wrap (gt b (IntKind.i64.wrap (i + (1 : Int))).toNat)) < (↑k : Int))) then bif parE (List.drop (IntKind.i64.wrap (i + IntKind.i64.wrap (gt b (IntKind.i64.wrap (i + (1 : Int))).toNat))).toNat b) != (0 : Int) then some (V.tup [V.ownv 181 (V.rows (Sh.agg [Sh.int IntKind.i64, Sh.bytes]) []), V.int IntKind.i64 (parE (List.drop (IntKind.i64.wrap (i + IntKind.i64.wrap (gt b (IntKind.i64.wrap (i + (1 : Int))).toNat))).toNat b))]) else bif andT true (((V.agg [V.int IntKind.i64 (IntKind.i64.wrap (gt b i.toNat)), V.bytes (cutL b (IntKind.i64.wrap (i + (2 : Int))).toNat (IntKind.i64.wrap (i + IntKind.i64.wrap (gt b (IntKind.i64.wrap (i + (1 : Int))).toNat))).toNat)] :: List.replicate 0 (V.agg [V.int IntKind.i64 0, V.bytes []]) ++ parLt (List.drop (IntKind.i64.wrap (i + IntKind.i64.wrap (gt b (IntKind.i64.wrap (i + (1 : Int))).toNat))).toNat b)).length * (32 : Nat)).ble (140737488355328 : Nat)) then some (V.tup [V.ownv 181 (V.rows (Sh.agg [Sh.int IntKind.i64, Sh.bytes]) (V.agg [V.int IntKind.i64 (IntKind.i64.wrap (gt b i.toNat)), V.bytes (cutL b (IntKind.i64.wrap (i + (2 : Int))).toNat (IntKind.i64.wrap (i + IntKind.i64.wrap (gt b (IntKind.i64.wrap (i + (1 : Int))).toNat))).toNat)] :: (parLt (List.drop (IntKind.i64.wrap (i + IntKind.i64.wrap (gt b (IntKind.i64.wrap (i + (1 : Int))).toNat))).toNat b)))), V.int IntKind.i64 0]) else none else none else bif andT true (decide ((0 : Int) ≤ IntKind.i64.wrap (i + IntKind.i64.wrap (gt b (IntKind.i64.wrap (i + (1 : Int))).toNat)) ∧ IntKind.i64.wrap (i + IntKind.i64.wrap (gt b (IntKind.i64.wrap (i + (1 : Int))).toNat)) ≤ (↑b.length : Int) ∧ b.length ≤ (40 : Nat) ∧ (↑b.length : Int) - IntKind.i64.wrap (i + IntKind.i64.wrap (gt b (IntKind.i64.wrap (i + (1 : Int))).toNat)) < (↑k : Int))) then bif parE (List.drop (IntKind.i64.wrap (i + IntKind.i64.wrap (gt b (IntKind.i64.wrap (i + (1 : Int))).toNat))).toNat b) != (0 : Int) then some (V.tup [V.ownv 181 (V.rows (Sh.agg [Sh.int IntKind.i64, Sh.bytes]) []), V.int IntKind.i64 (parE (List.drop (IntKind.i64.wrap (i + IntKind.i64.wrap (gt b (IntKind.i64.wrap (i + (1 : Int))).toNat))).toNat b))]) else bif andT true (((V.agg [V.int IntKind.i64 (IntKind.i64.wrap (gt b i.toNat)), V.bytes (cutL b (IntKind.i64.wrap (i + (2 : Int))).toNat (IntKind.i64.wrap (i + IntKind.i64.wrap (gt b (IntKind.i64.wrap (i + (1 : Int))).toNat))).toNat)] :: List.replicate 0 (V.agg [V.int IntKind.i64 0, V.bytes []]) ++ parLt (List.drop (IntKind.i64.wrap (i + IntKind.i64.wrap (gt b (IntKind.i64.wrap (i + (1 : Int))).toNat))).toNat b)).length * (32 : Nat)).ble (140737488355328 : Nat)) then some (V.tup [V.ownv 181 (V.rows (Sh.agg [Sh.int IntKind.i64, Sh.bytes]) (V.agg [V.int IntKind.i64 (IntKind.i64.wrap (gt b i.toNat)), V.bytes (cutL b (IntKind.i64.wrap (i + (2 : Int))).toNat (IntKind.i64.wrap (i + IntKind.i64.wrap (gt b (IntKind.i64.wrap (i + (1 : Int))).toNat))).toNat)] :: (parLt (List.drop (IntKind.i64.wrap (i + IntKind.i64.wrap (gt b (IntKind.i64.wrap (i + (1 : Int))).toNat))).toNat b)))), V.int IntKind.i64 0]) else none else none else none else none else bif andT true (decide ((0 : Int) ≤ IntKind.i64.wrap (i + (1 : Int)) ∧ IntKind.i64.wrap (i + (1 : Int)) ≤ (↑b.length : Int) ∧ b.length ≤ (40 : Nat) ∧ (↑b.length : Int) - IntKind.i64.wrap (i + (1 : Int)) < (↑k : Int))) then bif parE (List.drop (IntKind.i64.wrap (i + (1 : Int))).toNat b) != (0 : Int) then some (V.tup [V.ownv 181 (V.rows (Sh.agg [Sh.int IntKind.i64, Sh.bytes]) []), V.int IntKind.i64 (parE (List.drop (IntKind.i64.wrap (i + (1 : Int))).toNat b))]) else bif andT true (((V.agg [V.int IntKind.i64 (IntKind.i64.wrap (gt b i.toNat)), V.bytes []] :: List.replicate 0 (V.agg [V.int IntKind.i64 0, V.bytes []]) ++ parLt (List.drop (IntKind.i64.wrap (i + (1 : Int))).toNat b)).length * (32 : Nat)).ble (140737488355328 : Nat)) then some (V.tup [V.ownv 181 (V.rows (Sh.agg [Sh.int IntKind.i64, Sh.bytes]) (V.agg [V.int IntKind.i64 (IntKind.i64.wrap (gt b i.toNat)), V.bytes []] :: (parLt (List.drop (IntKind.i64.wrap (i + (1 : Int))).toNat b)))), V.int IntKind.i64 0]) else none else none else none else none := by kernel_rfl
theorem parF_count : ∀ (f : Nat) (b : List UInt8), (parF f b).2.length ≤ b.length
 | 0, _ => Nat.zero_le _
 | f + 1, b => by
  unfold parF
  split
  ·exact Nat.zero_le _
  ·split
   ·split <;> exact Nat.zero_le _
   ·split
    ·exact Nat.zero_le _
    ·rename_i h0 hz he
     have := oneE_no (by simpa using he) (by omega : 0 < b.length)
     have ih := parF_count f (b.drop (oneN b).toNat)
     rw [List.length_drop] at ih
     unfold jo
     split
     ·simp only [List.length_append, List.length_cons, List.length_nil]; omega
     ·exact Nat.zero_le _
theorem parL_count (b : List UInt8) : (parLt b).length ≤ b.length := by unfold parLt; rw [List.length_map]; exact parF_count _ _
theorem par_err {c : List UInt8} {e : Int} (h : 0 < c.length) (hz : ¬ gt c 0 = 0) (ho : oneE c = e) (he : ¬ e = 0) : parE c = e ∧ parLt c = [] := by
 unfold parE parLt
 rw [parO_err h hz (by rw [ho]; exact he), ho]
 exact ⟨rfl, rfl⟩
theorem par_step {c : List UInt8} {p : Int × List UInt8} {n : Int} (h : 0 < c.length) (hz : ¬ gt c 0 = 0) (ho : oneO c = (p, n, 0)) :
  (¬ parE (c.drop n.toNat) = 0 → parE c = parE (c.drop n.toNat) ∧ parLt c = []) ∧ (parE (c.drop n.toNat) = 0 → parE c = 0 ∧ parLt c = tlV p :: parLt (c.drop n.toNat)) := by
 have e := parO_one h hz (show oneE c = 0 by unfold oneE; rw [ho])
 have e1 : oneK c = p.1 := by unfold oneK; rw [ho]
 have e2 : oneD c = p.2 := by unfold oneD; rw [ho]
 have e3 : oneN c = n := by unfold oneN; rw [ho]
 rw [e1, e2, e3] at e
 unfold parE parLt
 rw [e]
 unfold jo
 constructor
 ·intro h1
  rw [if_neg h1]
  exact ⟨rfl, rfl⟩
 ·intro h1
  rw [if_pos h1]
  exact ⟨rfl, rfl⟩
set_option maxRecDepth 8000 in
set_option maxHeartbeats 1000000 in
theorem rToptRest_v (k : Nat) (b : List UInt8) (j : Nat) (hj : j ≤ b.length) (h40 : b.length ≤ 40) (hk : b.length - j < k + 1) :
  callV (Er k) af_rToptRest [.bytes b, .int .i64 j] = some (.tup [.ownv 181 (.rows (.agg [.int .i64, .bytes]) (parLt (b.drop j))), .int .i64 (parE (b.drop j))]) := by
 rw [rToptRest_t]
 simp only [Int.toNat_natCast]
 by_cases h1 : b.length ≤ j
 ·have e : parO (b.drop j) = (0, []) := parO_end (by rw [List.length_drop]; omega)
  unfold parLt parE
  rw [e]
  simp (disch := omega) only [tre]
  rfl
 have hl : (b.drop j).length = b.length - j := List.length_drop ..
 have q0 : gt (b.drop j) 0 = gt b j := gt_drop b j 0
 have q1 : gt (b.drop j) 1 = gt b (j + 1) := gt_drop b j 1
 have g0 := gt_lo b j
 have g1 := gt_hi b j
 by_cases hz : gt b j = 0
 ·have e := parO_zero (b := b.drop j) (by omega) (by rw [q0]; exact hz)
  unfold parLt parE
  rw [e]
  cases hzz : zeros (b.drop j) with
  | true =>
   simp (disch := omega) only [tre]
   rfl
  | false =>
   simp (disch := omega) only [tre]
   rfl
 have hz' : ¬ gt (b.drop j) 0 = 0 := by rw [q0]; exact hz
 have hp : 0 < (b.drop j).length := by omega
 by_cases k1 : gt b j = 1
 ·have ho : oneO (b.drop j) = ((1, []), 1, 0) := by unfold oneO; rw [q0, if_pos k1]
  obtain ⟨s1, s2⟩ := par_step hp hz' ho
  rw [show ((1 : Int).toNat) = 1 from rfl, List.drop_drop] at s1 s2
  have hc := parL_count (b.drop (j + 1))
  rw [List.length_drop] at hc
  have hw : (IntKind.i64.wrap ((j : Int) + 1)).toNat = j + 1 := by rw [w64 (by omega) (by omega)]; omega
  rw [hw]
  by_cases hn : parE (b.drop (j + 1)) = 0
  ·obtain ⟨s3, s4⟩ := s2 hn
   rw [s3, s4]
   have hl2 : (V.agg [V.int .i64 (gt b j), V.bytes []] :: List.replicate 0 (V.agg [V.int .i64 0, V.bytes []]) ++ parLt (b.drop (j + 1))).length = (parLt (b.drop (j + 1))).length + 1 := by simp
   simp (disch := omega) only [tre]
   rw [k1]
   rfl
  ·obtain ⟨s3, s4⟩ := s1 hn
   rw [s3, s4]
   simp (disch := omega) only [tre]
 have k1' : ¬ gt (b.drop j) 0 = 1 := by rw [q0]; exact k1
 by_cases k2 : b.length - j < 2
 ·have ho : oneE (b.drop j) = 3 := by unfold oneE oneO; rw [if_neg k1', if_pos (by omega)]
  obtain ⟨s1, s2⟩ := par_err hp hz' ho (by omega)
  rw [s1, s2]
  simp (disch := omega) only [tre]
 obtain ⟨n, hn⟩ : ∃ n, gt b (j + 1) = n := ⟨_, rfl⟩
 have hw : (IntKind.i64.wrap ((j : Int) + 1)).toNat = j + 1 := by rw [w64 (by omega) (by omega)]; omega
 have n0 := gt_lo b (j + 1)
 have n1 := gt_hi b (j + 1)
 rw [hw]
 rw [hn] at n0 n1 q1 ⊢
 by_cases k3 : n < 2
 ·have ho : oneE (b.drop j) = 5 := by unfold oneE oneO; rw [if_neg k1', if_neg (by omega), q1, if_pos k3]
  obtain ⟨s1, s2⟩ := par_err hp hz' ho (by omega)
  rw [s1, s2]
  simp (disch := omega) only [tre]
 by_cases k4 : n > (b.drop j).length
 ·have ho : oneE (b.drop j) = 3 := by unfold oneE oneO; rw [if_neg k1', if_neg (by omega), q1, if_neg k3, if_pos k4]
  obtain ⟨s1, s2⟩ := par_err hp hz' ho (by omega)
  rw [s1, s2]
  simp (disch := omega) only [tre]
 obtain ⟨m, rfl⟩ := Int.eq_ofNat_of_zero_le n0
 have hlen : (cutL b (j + 2) (j + m)).length = m - 2 := by rw [cutL_len (by omega)]; omega
 have hd : cutL b (j + 2) (j + m) = ((b.drop j).drop 2).take (m - 2) := by
  unfold cutL
  rw [List.drop_drop, show j + m - (j + 2) = m - 2 by omega]
 have w2 : (IntKind.i64.wrap ((j : Int) + 2)).toNat = j + 2 := by rw [w64 (by omega) (by omega)]; omega
 have w3 : IntKind.i64.wrap ((j : Int) + IntKind.i64.wrap (m : Int)) = ((j + m : Nat) : Int) := by
  have wm : IntKind.i64.wrap (m : Int) = m := w64 (by omega) (by omega)
  rw [wm, w64 (by omega) (by omega)]; omega
 rw [w2, w3, Int.toNat_natCast]
 have hfit := fit_lon (gt b j) (m - 2)
 cases hf : fitB (gt b j) (m - 2) with
 | false =>
  have ho : oneE (b.drop j) = 5 := by unfold oneE oneO; rw [if_neg k1', if_neg (by omega), q1, if_neg k3, if_neg k4, q0, Int.toNat_natCast, hf, if_neg (by simp)]
  obtain ⟨s1, s2⟩ := par_err hp hz' ho (by omega)
  rw [s1, s2]
  have hfit : ¬ (lonO (gt b j) < 0 ∨ lonO (gt b j) = (m - 2 : Nat)) := by rw [← hfit, hf]; simp
  simp (disch := omega) only [tre]
 | true =>
  have ho : oneO (b.drop j) = ((gt b j, ((b.drop j).drop 2).take (m - 2)), (m : Int), 0) := by unfold oneO; rw [if_neg k1', if_neg (by omega), q1, if_neg k3, if_neg k4, q0, Int.toNat_natCast, hf, if_pos rfl]
  have hfit : lonO (gt b j) < 0 ∨ lonO (gt b j) = (m - 2 : Nat) := by rw [← hfit, hf]
  obtain ⟨s1, s2⟩ := par_step hp hz' ho
  rw [Int.toNat_natCast, List.drop_drop] at s1 s2
  rw [← hd] at s2
  have hc := parL_count (b.drop (j + m))
  rw [List.length_drop] at hc
  have hl2 : (V.agg [V.int .i64 (gt b j), V.bytes (cutL b (j + 2) (j + m))] :: List.replicate 0 (V.agg [V.int .i64 0, V.bytes []]) ++ parLt (b.drop (j + m))).length = (parLt (b.drop (j + m))).length + 1 := by simp
  by_cases hn : parE (b.drop (j + m)) = 0
  ·obtain ⟨s3, s4⟩ := s2 hn
   rw [s3, s4]
   by_cases hx : lonO (gt b j) < 0
   ·simp (disch := omega) only [tre]
    rfl
   ·simp (disch := omega) only [tre]
    rfl
  ·obtain ⟨s3, s4⟩ := s1 hn
   rw [s3, s4]
   by_cases hx : lonO (gt b j) < 0
   ·simp (disch := omega) only [tre]
   ·simp (disch := omega) only [tre]
theorem rest_con : ∀ (k : Nat), ∀ vs v, cRest k vs = some (v, true) → SpecV Tryz.prog 93 vs v
 | 0 => by
  intro vs v h; unfold cRest at h; split at h
  ·rename_i b i
   injection h with h; injection h with h hb
   have := of_decide_eq_true hb
   omega
  ·cases h
 | k + 1 => by
  intro vs v h; unfold cRest at h; split at h
  ·rename_i b i
   injection h with h; injection h with h hb; subst h
   obtain ⟨h0, h1, h2, h3⟩ := of_decide_eq_true hb
   obtain ⟨j, rfl⟩ := Int.eq_ofNat_of_zero_le h0
   exact callV_ok (Er_ok (rest_con k)) af_rToptRest_ok (rToptRest_v k b j (by omega) h2 (by omega))
  ·cases h
def cRest41 : List V → Option (V × Bool) := cRest 41
theorem rest41_con : ∀ vs v, cRest41 vs = some (v, true) → SpecV Tryz.prog 93 vs v := rest_con 41
noncomputable def af_rToptParse : AF := afOf Tryz.prog Tryz.f62 []
theorem af_rToptParse_ok : AllOk Tryz.prog 62 af_rToptParse := .flat Tryz.func62 (by kernel_rfl) (by kernel_rfl) (by kernel_rfl) (by kernel_rfl) (by kernel_rfl)
noncomputable def GEtpo : List (Nat × Con) := [(93, .val [.bytes, .int .i64] cRest41)]
theorem GEtpo_ok : GOk Tryz.prog GEtpo := .cons (enters_of Tryz.func93 (by kernel_rfl) rfl) rest41_con <| .nil
noncomputable def IEtpo : List (Nat × AF) := []
theorem IEtpo_ok : IOk Tryz.prog IEtpo := .nil
noncomputable def CEtpo : List (Nat × (List Nat × (S → Option (Bool × Tr)))) := []
theorem CEtpo_ok : COk Tryz.prog CEtpo := .nil
noncomputable def XEtpo : List (Nat × (List Sh × (List V → PT))) := []
theorem XEtpo_ok : XOk Tryz.prog XEtpo := .nil
noncomputable def Etpo : Env := ⟨Tryz.prog, GEtpo, IEtpo, CEtpo, XEtpo, false⟩
theorem Etpo_ok : EnvOk Etpo := ⟨by kernel_rfl, GEtpo_ok, IEtpo_ok, CEtpo_ok, XEtpo_ok⟩
theorem rToptParse_t (b : List UInt8) : callV Etpo af_rToptParse [.bytes b] =
 bif decide ((b.length : Int) > 40) then some (.tup [.ownv 181 (.rows (.agg [.int .i64, .bytes]) []), .int .i64 4])
 else bif andT true (decide ((0 : Int) ≤ 0 ∧ (0 : Int) ≤ b.length ∧ b.length ≤ 40 ∧ (b.length : Int) - 0 < (41 : Nat))) then some (.tup [.ownv 181 (.rows (.agg [.int .i64, .bytes]) (parLt (b.drop 0))), .int .i64 (parE (b.drop 0))])
 else none := by kernel_rfl
theorem rToptParse_v (b : List UInt8) : callV Etpo af_rToptParse [.bytes b] = some (.tup [.ownv 181 (.rows (.agg [.int .i64, .bytes]) (topP b)), .int .i64 (topE b)]) := by
 rw [rToptParse_t]
 unfold topP topE
 by_cases h : b.length ≤ 40
 ·rw [if_pos h, if_pos h]
  simp (disch := omega) only [tre]
  rfl
 ·rw [if_neg h, if_neg h]
  simp (disch := omega) only [tre]
theorem rToptParse_con : ∀ vs v, cTopPar vs = some (v, true) → SpecV Tryz.prog 62 vs v := by
 intro vs v h; unfold cTopPar at h; split at h
 ·rename_i b
  injection h with h; injection h with h hb; subst h
  exact callV_ok Etpo_ok af_rToptParse_ok (rToptParse_v b)
 ·cases h
end Go.Proofs.YtfhljcbbgckdiaaGreat