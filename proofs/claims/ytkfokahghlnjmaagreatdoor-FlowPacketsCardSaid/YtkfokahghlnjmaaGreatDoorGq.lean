/- Part Gq of the proof: laws used by the law of this claim. -/
import Derived.Test.YtkfokahghlnjmaaGreatDoorGt
import Derived.Test.YtkfokahghlnjmaaGreatDoorGo
import Derived.Test.YtkfokahghlnjmaaGreatDoorGi
import Derived.Test.YtkfokahghlnjmaaGreatDoorGz
set_option linter.all false
namespace Go.Proofs.YtkfokahghlnjmaaGreatDoor
open Go Go.Am Go.RowKit Go.Mix Go.Bas
set_option maxRecDepth 100000
end Go.Proofs.YtkfokahghlnjmaaGreatDoor

namespace Go.Proofs.YtkfokahghlnjmaaGreatDoor
open Go Go.Am Go.RowKit Go.Mix Go.Bas
set_option maxRecDepth 100000
end Go.Proofs.YtkfokahghlnjmaaGreatDoor

namespace Go.Proofs.YtkfokahghlnjmaaGreatDoor
open Go Go.Am Go.RowKit Go.Mix Go.Bas
set_option maxRecDepth 100000
end Go.Proofs.YtkfokahghlnjmaaGreatDoor

namespace Go.Proofs.YtkfokahghlnjmaaGreatDoor
open Go Go.Am Go.RowKit Go.Mix Go.Bas
set_option maxRecDepth 100000
abbrev shMs : Sh := .agg [.int .i64, .int .i64, .int .u32, .bytes]
abbrev shPk : Sh := .agg [shH6, .bool, shHd, .barr 16, .int .i64, shTc, shMs, .bytes]
/-- a packet of which the header is known alone -/
def pkZ (h : H6) (r : Bool) : V := .agg [h.v, .bool r, .agg [.int .i64 0, .int .i64 0, .int .i64 0, .int .i64 0, .nils, .nils], .barr 16 (List.replicate 16 0), .int .i64 0, .agg [.int .i64 0, .int .i64 0, .int .u32 0, .int .u32 0, .int .i64 0, .int .i64 0, .int .i64 0, .int .i64 0, .nils, .nils], .agg [.int .i64 0, .int .i64 0, .int .u32 0, .nils], .nils]
def kdP (v : V) : Int := toI ((toG v).headD .undef)
def hrW (h : H6) (r : Bool) (l : List V) : List (Nat × Option Blk) := [(0, some (.var shPk (pkZ h r))), (1, some (.row 71 shP (.rows shP l))), (2, some (.var shP (pt 0 0 0)))]
def hrS (h : H6) (r : Bool) (l : List V) (i : Int) : S := ⟨[(0, .ref 0 [] 0 shPk), (26, .own 1 l.length shP), (4, .ref 2 [] 0 shP), (28, .int .i64 i), (27, .int .i64 l.length), (6, .own 1 l.length shP)], hrW h r l, 3, true, 49⟩
def hrX (h : H6) (r : Bool) (l : List V) : S := ⟨[(0, .ref 0 [] 0 shPk), (6, .own 1 l.length shP), (4, .ref 2 [] 0 shP)], hrW h r l, 3, true, 49⟩
def hrR (h : H6) (r : Bool) : S := ⟨[(0, .ref 0 [] 0 shPk), (4, .ref 1 [] 0 shP), (5, .int .i64 7)], [(0, some (.var shPk (pkZ h r))), (1, some (.var shP (pt 0 0 0)))], 2, true, 49⟩
def hrBad (l : List V) (i : Nat) : Bool := (l.drop (max i 1)).any fun v => kdP v == 43
def hrRt (r : Bool) (l : List V) (i : Nat) : Bool := r || (i == 0 && (match l with | [] => false | v :: _ => kdP v == 43))
def hrO (h : H6) (r : Bool) (l : List V) (i : Nat) : Tr := .br (hrBad l i) (.leaf .ret (hrR h (hrRt r l i))) (.leaf (.exit 0) (hrX h (hrRt r l i) l))
structure HrI where
  (h : H6)
  (r : Bool)
  (l : List V)
  (i : Int)
def h6Of (v : V) : H6 := ⟨toI (aG v 0), toI (aG v 1), toI (aG v 2), toI (aG v 3), toI (aG v 4), toA (aG v 5), toA (aG v 6)⟩
def hrGet (s : S) : HrI := ⟨h6Of (aG (bkD s 0) 0), toB (aG (bkD s 0) 1), toR (bkD s 1), toI (lkD s 28)⟩
def hrI (x : HrI) : Prop := 0 ≤ x.i ∧ x.i ≤ x.l.length ∧ x.l.length ≤ 1000
noncomputable def hrG : S → Option (Bool × Tr) := gX hrGet (fun x => hrS x.h x.r x.l x.i) hrI (fun x => hrO x.h x.r x.l x.i.toNat)
noncomputable def af_pkHead : AF := afOf Tryz.prog Tryz.f21 [.sum [0, 26, 4, 28, 27, 6] [0] hrG]
noncomputable def hrC : AC := (af_pkHead.ac.sums.headD (.skip, [], [], fun _ => none)).1
noncomputable def GEpke : List (Nat × Con) := []
theorem GEpke_ok : GOk Tryz.prog GEpke := .nil
noncomputable def IEpke : List (Nat × AF) := []
theorem IEpke_ok : IOk Tryz.prog IEpke := .nil
noncomputable def CEpke : List (Nat × (List Nat × (S → Option (Bool × Tr)))) := []
theorem CEpke_ok : COk Tryz.prog CEpke := .nil
noncomputable def XEpke : List (Nat × (List Sh × (List V → PT))) := []
theorem XEpke_ok : XOk Tryz.prog XEpke := .nil
noncomputable def Epke : Env := ⟨Tryz.prog, GEpke, IEpke, CEpke, XEpke⟩
theorem Epke_ok : EnvOk Epke := ⟨by kernel_rfl, GEpke_ok, IEpke_ok, CEpke_ok, XEpke_ok⟩
theorem hr_b (h : H6) (r : Bool) (l : List V) (i : Int) : aev Epke (inlN Epke 6) hrC (bodyF (Am.ways [0, 26, 4, 28, 27, 6] [0, 6, 4] [0, 4, 5]) [0]) (hrS h r l i) =
 bif decide (i < (l.length : Int)) then bif andT true (Am.inB i l.length) then
 bif kdP (l.getD i.toNat .undef) != 43 then some (.normal, hrS h r l (IntKind.i64.wrap (i + 1)))
 else bif decide (i > 0) then some (.ret, hrR h r) else some (.normal, hrS h true l (IntKind.i64.wrap (i + 1)))
 else none else some (.exit 0, hrX h r l) := by kernel_rfl
theorem hrBad_n {l : List V} {k : Nat} (hk : k < l.length) : hrBad l k = ((decide (0 < k) && kdP (l.getD k .undef) == 43) || hrBad l (k + 1)) := by
  unfold hrBad
  cases k with
  | zero => simp
  | succ k =>
    rw [Nat.max_eq_left (by omega), Nat.max_eq_left (by omega), drop_next (d := .undef) hk, List.any_cons]
    simp
theorem hrBad_e {l : List V} {k : Nat} (hk : l.length ≤ k) : hrBad l k = false := by
  unfold hrBad
  rw [List.drop_eq_nil_of_le (by omega)]
  rfl
theorem hrRt_n (r : Bool) (l : List V) (k : Nat) : hrRt r l (k + 1) = r := by simp [hrRt]
theorem hrRt_0 (r : Bool) {l : List V} (hk : 0 < l.length) : hrRt r l 0 = (r || kdP (l.getD 0 .undef) == 43) := by
  cases l with
  | nil => simp at hk
  | cons v l => simp [hrRt]
theorem hr_loop : LoopOk Tryz.prog hrC.erase [0] hrG := by
  refine loopX_ok Epke_ok (d := 6) (AC.flat_ok (by kernel_rfl)) (Am.ways [0, 26, 4, 28, 27, 6] [0, 6, 4] [0, 4, 5]) [0] hrGet _ _ hrI (fun x => (x.l.length - x.i).toNat) (fun _ => rfl) ?_
  rintro ⟨h, r, l, i⟩ ⟨h0, h1, hM⟩
  simp only at h0 h1 hM ⊢
  rw [hr_b]
  by_cases hi : i < l.length
  · have hk : i.toNat < l.length := by omega
    have hw : IntKind.i64.wrap (i + 1) = i + 1 := w64 (by omega) (by omega)
    have hn : (i + 1).toNat = i.toNat + 1 := by omega
    rw [hw]
    by_cases h43 : kdP (l.getD i.toNat .undef) = 43
    · by_cases hp : i > 0
      · refine .inr ⟨.ret, hrR h r, ?_, nofun, ?_⟩
        · rw [h43]
          simp (disch := omega) only [dec_t, dec_f, inB_t, inC_t, andT_t, cond_true, cond_false, Bool.and_true, Bool.true_and, w64, wu32, wu8, nble_t, nblt_t, Bool.not_true, Bool.not_false, Bool.not_not, ieq_t, ieq_f, ine_t, ine_f, true_and, and_true, andT_l]
        · unfold hrO
          rw [hrBad_n hk, h43, show decide (0 < i.toNat) = true from decide_eq_true (by omega)]
          refine leaf_t rfl ?_
          obtain ⟨k, hk2⟩ : ∃ k, i.toNat = k + 1 := ⟨i.toNat - 1, by omega⟩
          rw [hk2, hrRt_n]
          exact .leaf
      · have hz : i = 0 := by omega
        subst hz
        refine .inl ⟨⟨h, true, l, 1⟩, ?_, ⟨by dsimp only; omega, by dsimp only; omega, hM⟩, by dsimp only; omega, leaf_eq ?_⟩
        · rw [h43]
          simp (disch := omega) only [dec_t, dec_f, inB_t, inC_t, andT_t, cond_true, cond_false, Bool.and_true, Bool.true_and, w64, wu32, wu8, nble_t, nblt_t, Bool.not_true, Bool.not_false, Bool.not_not, ieq_t, ieq_f, ine_t, ine_f, true_and, and_true, andT_l]
          rfl
        · dsimp only
          unfold hrO
          have e1 : hrBad l 0 = hrBad l 1 := by
            have := hrBad_n hk
            rw [show (0 : Int).toNat = 0 from rfl] at this
            rw [this]
            simp
          have e2 := hrRt_0 r (l := l) (by omega)
          rw [show (0 : Int).toNat = 0 from rfl] at h43 ⊢
          rw [h43] at e2
          rw [show (1 : Int).toNat = 0 + 1 from rfl, hrRt_n, e1, e2]
          simp
    · refine .inl ⟨⟨h, r, l, i + 1⟩, ?_, ⟨by dsimp only; omega, by dsimp only; omega, hM⟩, by dsimp only; omega, leaf_eq ?_⟩
      · simp (disch := omega) only [dec_t, dec_f, inB_t, inC_t, andT_t, cond_true, cond_false, Bool.and_true, Bool.true_and, w64, wu32, wu8, nble_t, nblt_t, Bool.not_true, Bool.not_false, Bool.not_not, ieq_t, ieq_f, ine_t, ine_f, true_and, and_true, andT_l]
      · dsimp only
        unfold hrO
        rw [hn, hrBad_n hk, ieq_f h43, hrRt_n]
        have e2 : hrRt r l i.toNat = r := by
          rcases Nat.eq_zero_or_pos i.toNat with hz | hz
          · rw [hz] at h43 ⊢
            rw [hrRt_0 r (by omega), ieq_f h43]; simp
          · obtain ⟨k, hk2⟩ : ∃ k, i.toNat = k + 1 := ⟨i.toNat - 1, by omega⟩
            rw [hk2, hrRt_n]
        rw [e2]
        simp
  · refine .inr ⟨.exit 0, hrX h r l, ?_, nofun, ?_⟩
    · simp (disch := omega) only [dec_t, dec_f, inB_t, inC_t, andT_t, cond_true, cond_false, Bool.and_true, Bool.true_and, w64, wu32, wu8, nble_t, nblt_t, Bool.not_true, Bool.not_false, Bool.not_not, ieq_t, ieq_f, ine_t, ine_f, true_and, and_true, andT_l]
    · unfold hrO
      rw [hrBad_e (by omega)]
      refine leaf_f rfl ?_
      have e2 : hrRt r l i.toNat = r := by
        cases l with
        | nil => simp [hrRt]
        | cons v l =>
          obtain ⟨k, hk2⟩ : ∃ k, i.toNat = k + 1 := ⟨i.toNat - 1, by simp at hi; omega⟩
          rw [hk2, hrRt_n]
      rw [e2]
      exact .leaf
theorem af_pkHead_ok : AllOk Tryz.prog 21 af_pkHead := .sums Tryz.func21 (by kernel_rfl) (by kernel_rfl) (by kernel_rfl) (by kernel_rfl) (sums_one (c := hrC) (ts := [0, 26, 4, 28, 27, 6]) (by kernel_rfl) (by kernel_rfl) hr_loop)
end Go.Proofs.YtkfokahghlnjmaaGreatDoor
