/- Part Gds of the proof: laws used by the law of this claim. -/
import Derived.Test.YtpoeinajedbfoaaDoorGdr
import Derived.Test.YtpoeinajedbfoaaDoorGz
import Derived.Test.YtpoeinajedbfoaaDoorGf
import Derived.Test.YtpoeinajedbfoaaDoorGtx
set_option linter.all false
namespace Go.Proofs.YtpoeinajedbfoaaDoor
open Go Go.Am Go.RowKit Go.Mix Go.Bas
set_option maxRecDepth 100000
noncomputable def af_tlIs : AF := afOf Tryd.prog Tryd.f30 []
theorem af_tlIs_ok : AllOk Tryd.prog 30 af_tlIs := .flat Tryd.func30 (by kernel_rfl) (by kernel_rfl) (by kernel_rfl) (by kernel_rfl) (by kernel_rfl)
noncomputable def af_tlGet : AF := afOf Tryd.prog Tryd.f10 []
theorem af_tlGet_ok : AllOk Tryd.prog 10 af_tlGet := .flat Tryd.func10 (by kernel_rfl) (by kernel_rfl) (by kernel_rfl) (by kernel_rfl) (by kernel_rfl)
noncomputable def af_tlAdd : AF := afOf Tryd.prog Tryd.f8 []
theorem af_tlAdd_ok : AllOk Tryd.prog 8 af_tlAdd := .flat Tryd.func8 (by kernel_rfl) (by kernel_rfl) (by kernel_rfl) (by kernel_rfl) (by kernel_rfl)
noncomputable def af_smAdd : AF := afOf Tryd.prog Tryd.f31 []
theorem af_smAdd_ok : AllOk Tryd.prog 31 af_smAdd := .flat Tryd.func31 (by kernel_rfl) (by kernel_rfl) (by kernel_rfl) (by kernel_rfl) (by kernel_rfl)
noncomputable def GEdrg : List (Nat × Con) := []
theorem GEdrg_ok : GOk Tryd.prog GEdrg := .nil
noncomputable def IEdrg : List (Nat × AF) := [(30, af_tlIs)]
theorem IEdrg_ok : IOk Tryd.prog IEdrg := .cons af_tlIs_ok <| .nil
noncomputable def CEdrg : List (Nat × (List Nat × (S → Option (Bool × Tr)))) := []
theorem CEdrg_ok : COk Tryd.prog CEdrg := .nil
noncomputable def XEdrg : List (Nat × (List Sh × (List V → PT))) := []
theorem XEdrg_ok : XOk Tryd.prog XEdrg := .nil
noncomputable def Edrg : Env := ⟨Tryd.prog, GEdrg, IEdrg, CEdrg, XEdrg⟩
theorem Edrg_ok : EnvOk Edrg := ⟨by kernel_rfl, GEdrg_ok, IEdrg_ok, CEdrg_ok, XEdrg_ok⟩
def tyS : Sh := .agg [.arr 16 (.int .i64)]
def tyV (w : List V) : V := .agg [.arr (.int .i64) 16 w]
/-- how many there are for a reason -/
def drP (w : List V) (i : Int) : Int := if 0 < i ∧ i < 16 then toI (w.getD i.toNat .undef) else 0
/-- how many there are, from a reason on -/
def drS (w : List V) : Nat → Int → Int
  | 0, _ => 0
  | k + 1, i => (if drP w i > 0 then drP w i else 0) + drS w k (i + 1)
def eaS (w : List V) (n i : Int) : S := ⟨[(0, .vref tyS (tyV w)), (1, .fn 31 [.ref 0 [] 0 (.agg [.int .i64])] []), (6, .int .i64 i)], [(0, some (.var (.agg [.int .i64]) (.agg [.int .i64 n])))], 1, true, 19⟩
def eaX (n : Int) : S := ⟨[(1, .fn 31 [.ref 0 [] 0 (.agg [.int .i64])] [])], [(0, some (.var (.agg [.int .i64]) (.agg [.int .i64 n])))], 1, true, 19⟩
structure EaI where
  (w : List V)
  (n i : Int)
def eaGet (s : S) : EaI := ⟨(match lkD s 0 with | .vref _ (.agg [.arr _ _ w]) => w | _ => []), toI (aG (bkD s 0) 0), toI (lkD s 6)⟩
/-- counts that may be -/
def drW (w : List V) : Prop := w.length = 16 ∧ ∀ i : Nat, 0 ≤ toI (w.getD i .undef) ∧ toI (w.getD i .undef) ≤ 1000
def eaI (x : EaI) : Prop := 0 ≤ x.i ∧ x.i ≤ 16 ∧ drW x.w ∧ 0 ≤ x.n ∧ x.n ≤ 1000 * x.i
def eaO (x : EaI) : Tr := .leaf (.exit 0) (eaX (x.n + drS x.w (16 - x.i).toNat x.i))
noncomputable def eaG : S → Option (Bool × Tr) := gX eaGet (fun x => eaS x.w x.n x.i) eaI eaO
noncomputable def af_tlEach : AF := afOf Tryd.prog Tryd.f32 [.sum [0, 1, 6] [0] eaG]
noncomputable def GEdre : List (Nat × Con) := []
theorem GEdre_ok : GOk Tryd.prog GEdre := .nil
noncomputable def IEdre : List (Nat × AF) := [(30, af_tlIs), (10, af_tlGet), (31, af_smAdd)]
theorem IEdre_ok : IOk Tryd.prog IEdre := .cons af_tlIs_ok <| .cons af_tlGet_ok <| .cons af_smAdd_ok <| .nil
noncomputable def CEdre : List (Nat × (List Nat × (S → Option (Bool × Tr)))) := []
theorem CEdre_ok : COk Tryd.prog CEdre := .nil
noncomputable def XEdre : List (Nat × (List Sh × (List V → PT))) := []
theorem XEdre_ok : XOk Tryd.prog XEdre := .nil
noncomputable def Edre : Env := ⟨Tryd.prog, GEdre, IEdre, CEdre, XEdre⟩
theorem Edre_ok : EnvOk Edre := ⟨by kernel_rfl, GEdre_ok, IEdre_ok, CEdre_ok, XEdre_ok⟩
noncomputable def eaC : AC := (af_tlEach.ac.sums.headD (.skip, [], [], fun _ => none)).1
theorem ea_b (w : List V) (n i : Int) : aev Edre (inlN Edre 6) eaC (bodyF (Am.ways [0, 1, 6] [1] []) [0]) (eaS w n i) =
 bif decide (i < (16 : Int)) then
 bif decide (i > (0 : Int)) then
 bif !decide (i < (16 : Int)) then some (Ex.normal, eaS w n (IntKind.i64.wrap (i + (1 : Int))))
 else
 bif andT true (inB i (16 : Nat)) then
 bif decide (toI (w.getD i.toNat V.undef) > (0 : Int)) then
 some
 (Ex.normal,
 eaS w (IntKind.i64.wrap (n + toI (w.getD i.toNat V.undef))) (IntKind.i64.wrap (i + (1 : Int))))
 else some (Ex.normal, eaS w n (IntKind.i64.wrap (i + (1 : Int))))
 else none
 else some (Ex.normal, eaS w n (IntKind.i64.wrap (i + (1 : Int))))
 else some (Ex.exit (0 : Nat), eaX n) := by kernel_rfl

theorem drP_in {w : List V} {i : Int} (h0 : 0 < i) (h1 : i < 16) : drP w i = toI (w.getD i.toNat .undef) := if_pos ⟨h0, h1⟩
theorem drP_out {w : List V} {i : Int} (h : ¬ (0 < i ∧ i < 16)) : drP w i = 0 := if_neg h
theorem drP_rng {w : List V} (h : drW w) (i : Int) : 0 ≤ drP w i ∧ drP w i ≤ 1000 := by
  by_cases c : 0 < i ∧ i < 16
  · rw [drP_in c.1 c.2]; exact h.2 _
  · rw [drP_out c]; decide
theorem ea_loop : LoopOk Tryd.prog eaC.erase [0] eaG := by
  refine loopX_ok Edre_ok (d := 6) (AC.flat_ok (by kernel_rfl)) (Am.ways [0, 1, 6] [1] []) [0] eaGet _ eaO eaI (fun x => (16 - x.i).toNat) (fun _ => rfl) ?_
  rintro ⟨w, n, i⟩ ⟨h0, h1, hw, h2, h3⟩
  simp only at h0 h1 hw h2 h3 ⊢
  rw [ea_b]
  by_cases hi : i < 16
  · have hk : (16 - i).toNat = (16 - (i + 1)).toNat + 1 := by omega
    have hr := drP_rng hw i
    rw [dec_t hi, w64 (x := i + 1) (by omega) (by omega)]
    by_cases hz : i > 0
    · rw [dec_t hz, inB_t h0 (by omega), ← drP_in hz hi]
      by_cases hp : drP w i > 0
      · rw [dec_t hp, w64 (by omega) (by omega)]
        refine .inl ⟨⟨w, n + drP w i, i + 1⟩, rfl, ⟨by dsimp only; omega, by dsimp only; omega, hw, by dsimp only; omega, by dsimp only; omega⟩, by dsimp only; omega, leaf_eq ?_⟩
        unfold eaO
        dsimp only
        rw [hk]
        conv => rhs; unfold drS
        rw [if_pos hp, Int.add_assoc]
      · rw [dec_f hp]
        refine .inl ⟨⟨w, n, i + 1⟩, rfl, ⟨by dsimp only; omega, by dsimp only; omega, hw, h2, by dsimp only; omega⟩, by dsimp only; omega, leaf_eq ?_⟩
        unfold eaO
        dsimp only
        rw [hk]
        conv => rhs; unfold drS
        rw [if_neg hp, Int.zero_add]
    · rw [dec_f hz]
      refine .inl ⟨⟨w, n, i + 1⟩, rfl, ⟨by dsimp only; omega, by dsimp only; omega, hw, h2, by dsimp only; omega⟩, by dsimp only; omega, leaf_eq ?_⟩
      unfold eaO
      dsimp only
      rw [hk]
      conv => rhs; unfold drS
      rw [drP_out (by omega), if_neg (by decide), Int.zero_add]
  · refine .inr ⟨.exit 0, eaX n, ?_, nofun, ?_⟩
    · rw [dec_f hi]
      rfl
    · unfold eaO
      dsimp only
      rw [show (16 - i).toNat = 0 by omega]
      unfold drS
      rw [Int.add_zero]
      exact .leaf
theorem af_tlEach_ok : AllOk Tryd.prog 32 af_tlEach := .sums Tryd.func32 (by kernel_rfl) (by kernel_rfl) (by kernel_rfl) (by kernel_rfl) (sums_one (c := eaC) (ts := [0, 1, 6]) (by kernel_rfl) (by kernel_rfl) ea_loop)
/-- counts that may be, said by a program -/
def drWB (w : List V) : Bool := Nat.beq w.length 16 && w.all fun v => decide (0 ≤ toI v ∧ toI v ≤ 1000)
theorem drW_of {w : List V} (h : drWB w = true) : drW w := by
  obtain ⟨h1, h2⟩ := (Bool.and_eq_true _ _).mp h
  refine ⟨Nat.eq_of_beq_eq_true h1, fun i => ?_⟩
  rw [List.getD_eq_getElem?_getD]
  cases hx : w[i]? with
  | none => exact ⟨Int.le_refl _, by decide⟩
  | some v => exact of_decide_eq_true (List.all_eq_true.1 h2 v (List.mem_of_getElem? hx))
noncomputable def af_tlTotal : AF := afOf Tryd.prog Tryd.f9 []
theorem af_tlTotal_ok : AllOk Tryd.prog 9 af_tlTotal := .flat Tryd.func9 (by kernel_rfl) (by kernel_rfl) (by kernel_rfl) (by kernel_rfl) (by kernel_rfl)
noncomputable def GEdrt : List (Nat × Con) := []
theorem GEdrt_ok : GOk Tryd.prog GEdrt := .nil
noncomputable def IEdrt : List (Nat × AF) := [(32, af_tlEach), (31, af_smAdd)]
theorem IEdrt_ok : IOk Tryd.prog IEdrt := .cons af_tlEach_ok <| .cons af_smAdd_ok <| .nil
noncomputable def CEdrt : List (Nat × (List Nat × (S → Option (Bool × Tr)))) := []
theorem CEdrt_ok : COk Tryd.prog CEdrt := .nil
noncomputable def XEdrt : List (Nat × (List Sh × (List V → PT))) := []
theorem XEdrt_ok : XOk Tryd.prog XEdrt := .nil
noncomputable def Edrt : Env := ⟨Tryd.prog, GEdrt, IEdrt, CEdrt, XEdrt⟩
theorem Edrt_ok : EnvOk Edrt := ⟨by kernel_rfl, GEdrt_ok, IEdrt_ok, CEdrt_ok, XEdrt_ok⟩
theorem tlTotal_u (w : List V) : callV Edrt af_tlTotal [.vref (.agg [.arr 16 (.int .i64)]) (.agg [.arr (.int .i64) 16 w])] = bif okG (eaS w 0 0 = eaS w 0 0 ∧ eaI ⟨w, 0, 0⟩) then some (.int .i64 (0 + drS w (16 - 0 : Int).toNat 0)) else none := by kernel_rfl
theorem tlTotal_v (w : List V) (h : drWB w = true) : callV Edrt af_tlTotal [.vref (.agg [.arr 16 (.int .i64)]) (.agg [.arr (.int .i64) 16 w])] = some (.int .i64 (drS w 16 0)) := by
  rw [tlTotal_u, okG_t ⟨rfl, Int.le_refl _, by dsimp only; omega, drW_of h, Int.le_refl _, by dsimp only; omega⟩, Int.zero_add]
  rfl
def cDrTotal : List V → Option (V × Bool)
  | [.vref (.agg [.arr 16 (.int .i64)]) (.agg [.arr (.int .i64) 16 w])] => some (.int .i64 (drS w 16 0), drWB w)
  | _ => none
theorem tlTotal_con : ∀ vs v, cDrTotal vs = some (v, true) → SpecV Tryd.prog 9 vs v := by
  intro vs v h; unfold cDrTotal at h; split at h
  · rename_i w
    injection h with h; injection h with h hb; subst h
    exact callV_ok Edrt_ok af_tlTotal_ok (tlTotal_v _ hb)
  · cases h
theorem tlGet_t (w : List V) (i : Int) : callV Edrg af_tlGet [.vref (.agg [.arr 16 (.int .i64)]) (.agg [.arr (.int .i64) 16 w]), .int .i64 i] =
 bif decide (i > (0 : Int)) then
 bif !decide (i < (16 : Int)) then some (V.int IntKind.i64 (0 : Int))
 else bif andT true (inB i (16 : Nat)) then some (V.int IntKind.i64 (toI (w.getD i.toNat V.undef))) else none
 else some (V.int IntKind.i64 (0 : Int)) := by kernel_rfl

theorem tlGet_v (w : List V) (i : Int) : callV Edrg af_tlGet [.vref (.agg [.arr 16 (.int .i64)]) (.agg [.arr (.int .i64) 16 w]), .int .i64 i] = some (.int .i64 (drP w i)) := by
  rw [tlGet_t]
  by_cases h0 : i > 0
  · by_cases h1 : i < 16
    · rw [drP_in h0 h1, dec_t h0, dec_t h1, inB_t (by omega) (by omega)]
      rfl
    · rw [drP_out (by omega), dec_t h0, dec_f h1]
      rfl
  · rw [drP_out (by omega), dec_f h0]
    rfl
theorem tlGet_nil (i : Int) : callV Edrg af_tlGet [.nil .ptr, .int .i64 i] = some (.int .i64 0) := by kernel_rfl
theorem get_spec (w : List V) (i : Int) : SpecV Tryd.prog 10 [.vref (.agg [.arr 16 (.int .i64)]) (.agg [.arr (.int .i64) 16 w]), .int .i64 i] (.int .i64 (drP w i)) := callV_ok Edrg_ok af_tlGet_ok (tlGet_v w i)
theorem get_nil (i : Int) : SpecV Tryd.prog 10 [.nil .ptr, .int .i64 i] (.int .i64 0) := callV_ok Edrg_ok af_tlGet_ok (tlGet_nil i)
end Go.Proofs.YtpoeinajedbfoaaDoor

namespace Go.Proofs.YtpoeinajedbfoaaDoor
open Go Go.Am Go.RowKit Go.Mix Go.Bas
set_option maxRecDepth 100000
theorem spec_str {f : FuncId} {vs : List V} {l : List UInt8} (H : SpecV Tryd.prog f vs (.str l)) {O : Nat → Prop} {w : World} {cs : List Value} (hO : OOk O w) (hv : VReps no O w vs cs) : Calls Tryd.prog f cs.toArray w fun e w' => e = .returned (.string ⟨l.toArray⟩) ∧ Below w.heap.size w w' := by
  refine (H O w cs hO hv).mono ?_
  rintro e w' ⟨hb, c, rfl, ho⟩
  refine ⟨?_, hb⟩
  cases ho with
  | val h =>
    cases h with
    | one h _ => cases h; rfl
    | agg _ ha => cases ha
theorem spec_int {f : FuncId} {vs : List V} {k : IntKind} {n : Int} (H : SpecV Tryd.prog f vs (.int k n)) {O : Nat → Prop} {w : World} {cs : List Value} (hO : OOk O w) (hv : VReps no O w vs cs) : Calls Tryd.prog f cs.toArray w fun e w' => e = .returned (.int k n) ∧ Below w.heap.size w w' := by
  refine (H O w cs hO hv).mono ?_
  rintro e w' ⟨hb, c, rfl, ho⟩
  refine ⟨?_, hb⟩
  cases ho with
  | val h =>
    cases h with
    | one h _ => cases h; rfl
    | agg _ ha => cases ha
theorem itoa_calls (n : Int) (h0 : -9223372036854775808 ≤ n) (h1 : n ≤ 9223372036854775807) (w : World) (hg : LaidW w) : Calls Tryd.prog 38 #[.int .i64 n] w fun e w' => e = .returned (.string ⟨(Lib.itoa n).toArray⟩) ∧ Below w.heap.size w w' := by
  have e : cItoa [.int .i64 n] = some (.str (Lib.itoa n), decide (-9223372036854775808 ≤ n ∧ n ≤ 9223372036854775807)) := rfl
  rw [decide_eq_true (show -9223372036854775808 ≤ n ∧ n ≤ 9223372036854775807 from ⟨h0, h1⟩)] at e
  exact spec_str (xItoa_con _ _ e) (OOk.no hg) (.cons (.one (.int nofun) rfl) .nil)
theorem isB_step {T e : TypeId} {B b : Nat} {bs : List Value} {w w' : World} (h : Lib.IsBuilder T e B b bs w) (hb : Below w.heap.size w w') : Lib.IsBuilder T e B b bs w' := by
  have key : ∀ p, Lib.BuilderAt T e B b p bs w → Lib.BuilderAt T e B b p bs w' := by
    rintro p ⟨hB, v, hk, ho, hne⟩
    have hlt : b < w.heap.size := by
      rcases Nat.lt_or_ge b w.heap.size with h' | h'
      · exact h'
      · simp [Array.getElem?_eq_none h'] at hk
    obtain ⟨A, n, c, rfl⟩ : ∃ A n c, v = .slice A n c := by
      rcases ho.2 with ⟨hv, _⟩ | ⟨g, cap, cur, hv, _⟩
      · exact ⟨_, _, _, hv⟩
      · exact ⟨_, _, _, hv⟩
    exact ⟨hB, _, (hb.block b hlt).trans hk, ownsRow_same ho fun a ha => by subst ha; exact hb.block _ (ownsRow_lt ho).2, hne⟩
  exact h.imp (key _) (key _)
theorem str_app (a b : List UInt8) : (⟨a.toArray⟩ : ByteArray) ++ ⟨b.toArray⟩ = ⟨(a ++ b).toArray⟩ := by
  apply ByteArray.ext
  simp
/-- a line -/
def lnT (r m : Int) : List UInt8 := nmN r ++ [32] ++ Lib.itoa m ++ [10]
theorem nmF_len : ∀ (l w : List UInt8) (r : Int), (nmF l w r).length ≤ w.length + l.length
  | [], w, r => Nat.le_refl _
  | c :: l, w, r => by
    unfold nmF
    split
    · have := nmF_len l (w ++ [c]) r
      simp only [List.length_append, List.length_cons, List.length_nil] at this ⊢
      omega
    · split
      · simp
      · have := nmF_len l [] (r - 1)
        simp only [List.length_cons, List.length_nil] at this ⊢
        omega
theorem nmN_len (r : Int) : (nmN r).length ≤ 74 := by
  unfold nmN
  split
  · exact nmF_len nmL [] r
  · simp
theorem lnT_len {r m : Int} (h0 : -9223372036854775808 ≤ m) (h1 : m ≤ 9223372036854775807) : (lnT r m).length ≤ 100 := by
  have := nmN_len r
  have := itoa_len h0 h1
  unfold lnT
  simp only [List.length_append, List.length_cons, List.length_nil]
  omega
end Go.Proofs.YtpoeinajedbfoaaDoor
namespace Go.Proofs.YtpoeinajedbfoaaDoor
open Go Go.RowKit Go.Mix Go.Bas
set_option maxRecDepth 1000000 in
set_option maxHeartbeats 2000000 in
theorem line_calls (B b : Nat) (l : List UInt8) (r m : Int) (w : World) (h : Lib.IsBuilder 65 5 B b (Lib.byteCells l) w) (h0 : -9223372036854775808 ≤ m) (h1 : m ≤ 9223372036854775807) (hl : l.length ≤ 1000000) (hBw : B ≤ w.heap.size) (hg : Am.LaidW w) :
    Calls Tryd.prog 33 #[.pointer (some ⟨b, 0, none⟩), .int .i64 r, .int .i64 m] w fun e w' => e = .returned (.tuple #[]) ∧ Lib.IsBuilder 65 5 B b (Lib.byteCells (l ++ lnT r m)) w' ∧ Below B w w' := by
  have n1 := nmN_len r
  have n2 := itoa_len h0 h1
  obtain ⟨a1, E1⟩ : ∃ a1, Hid (nmN r ++ [32] = a1) := ⟨_, hid rfl⟩
  obtain ⟨a2, E2⟩ : ∃ a2, Hid (a1 ++ Lib.itoa m = a2) := ⟨_, hid rfl⟩
  have m1 : a1.length = (nmN r).length + 1 := by rw [← E1.out]; simp
  have m2 : a2.length = a1.length + (Lib.itoa m).length := by rw [← E2.out]; simp
  have m3 : (lnT r m).length = a2.length + 1 := by unfold lnT; rw [E1.out, E2.out]; simp
  have hs1 : (⟨(nmN r).toArray⟩ : ByteArray) ++ ⟨#[32]⟩ = ⟨a1.toArray⟩ := by rw [← E1.out]; exact str_app _ [32]
  have hs2 : (⟨a1.toArray⟩ : ByteArray) ++ ⟨(Lib.itoa m).toArray⟩ = ⟨a2.toArray⟩ := by rw [← E2.out]; exact str_app _ _
  have hs3 : (⟨a2.toArray⟩ : ByteArray) ++ ⟨#[10]⟩ = ⟨(lnT r m).toArray⟩ := by unfold lnT; rw [E1.out, E2.out]; exact str_app _ [10]
  have g1 : ¬ (9223372036854775807 < (nmN r).length + 1) := by omega
  have g2 : ¬ (9223372036854775807 < a1.length + (Lib.itoa m).length) := by omega
  have g3 : ¬ (9223372036854775807 < a2.length + 1) := by omega
  have hsz : (Lib.byteCells l).length + (⟨(lnT r m).toArray⟩ : ByteArray).size ≤ 140737488355328 := by
    rw [Lib.byteCells_length]
    show _ + (lnT r m).toArray.size ≤ _
    rw [List.size_toArray]
    omega
  have HB : Hid (Lib.IsBuilder 65 5 B b (Lib.byteCells l) w.drew) := hid h
  replace hg : Am.LaidW w.drew := hg.below (bel_drew w 1)
  have hlen := lnT_len (r := r) h0 h1
  clear h
  have hne : Nonempty (SBW B w) := Cls.ne (SB.refl hBw)
  have hq := (SB.refl (w0 := w) hBw).drew
  go_enter Tryd.func33, Tryd.ntmps33
  refine wp_region_segs (fun wq => ∃ u : SBW (B) (w), wq = u.w) ((0, 0) :: (1, 0) :: (2, 0) :: (3, 0) :: (6, 0) :: (4, 1) :: (5, 0) :: (7, 1) :: (8, 0) :: (9, 0) :: (10, 1) :: []) (by kernel_rfl) (by kernel_rfl) (by kernel_rfl) (by kernel_rfl) (inC hq) ?_
  refine seg_held _ rfl ?_; go_big_quiet_step (fail); refine wpQuiet_nil ?_ -- 0 move
  refine seg_held _ rfl ?_; go_big_quiet_step (fail); refine wpQuiet_nil ?_ -- 1 nilCheck
  refine seg_held _ rfl ?_; go_big_quiet_step (fail); refine wpQuiet_nil ?_ -- 2 fieldAddr
  refine seg_held _ rfl ?_; go_big_quiet_step (fail); refine wpQuiet_nil ?_ -- 3 move
  refine seg_held _ rfl ?_; go_big_quiet_step (fail); refine wpQuiet_nil ?_ -- 6 move
  refine seg_loud _ rfl rfl ?_; intro K hK -- 4 call harrier/drops.Name
  go_wp2_with fail
  refine (drName_calls _ _).mono ?_
  rintro e w1 ⟨rfl, hb1⟩
  go_wp2_with fail
  have hq1 := hq.step hb1
  have HB1 := hid (isB_step HB.out hb1)
  have hg1 := hg.below hb1
  refine ⟨_, fun _ h => h, inC hq1, ?_⟩
  refine seg_held _ rfl ?_; go_big_quiet_step (fail); refine wpQuiet_nil ?_ -- 5 binOp
  refine seg_loud _ rfl rfl ?_; intro K hK -- 7 call strconv.Itoa
  go_wp2_with fail
  refine (itoa_calls m h0 h1 _ hg1).mono ?_
  rintro e w2 ⟨rfl, hb2⟩
  go_wp2_with fail
  have hq2 := hq1.step hb2
  have HB2 := hid (isB_step HB1.out hb2)
  refine ⟨_, fun _ h => h, inC hq2, ?_⟩
  refine seg_held _ rfl ?_; go_big_quiet_step (fail); refine wpQuiet_nil ?_ -- 8 binOp
  refine seg_held _ rfl ?_; go_big_quiet_step (fail); refine wpQuiet_nil ?_ -- 9 binOp
  refine seg_loud _ rfl rfl ?_; intro K hK -- 10 call (*strings.Builder).WriteString
  go_wp2_with fail
  refine (pgWrite B b _ ⟨(lnT r m).toArray⟩ w2 HB2.out hsz hq2.2).mono ?_
  rintro e w3 ⟨rfl, hB3, hb3⟩
  go_wp2_with fail
  have hq3 := hq2.low hb3
  refine ⟨_, fun _ h => h, inC hq3, ?_⟩
  refine seg_nil ?_
  go_wp2
  go_end0
  refine ⟨rfl, .inr ?_, hq3.1⟩
  have e : Lib.byteCells (l ++ lnT r m) = Lib.byteCells l ++ Lib.strCells ⟨(lnT r m).toArray⟩ := by simp [Lib.byteCells, Lib.strCells]
  rw [e]
  exact hB3
end Go.Proofs.YtpoeinajedbfoaaDoor

namespace Go.Proofs.YtpoeinajedbfoaaDoor
open Go Go.Am Go.RowKit Go.Mix Go.Bas
set_option maxRecDepth 100000
/-- lines, from a reason on -/
def txF (w : List V) : Nat → Int → List UInt8
  | 0, _ => []
  | k + 1, i => (if drP w i > 0 then nmN i ++ [32] ++ Lib.itoa (drP w i) ++ [10] else []) ++ txF w k (i + 1)
end Go.Proofs.YtpoeinajedbfoaaDoor

namespace Go.Proofs.YtpoeinajedbfoaaDoor
open Go Go.Am Go.RowKit Go.Mix Go.Bas
set_option maxRecDepth 100000
/-- lines, from a reason on, of any counts -/
def txG (g : Int → Int) : Nat → Int → List UInt8
  | 0, _ => []
  | k + 1, i => (if g i > 0 then lnT i (g i) else []) ++ txG g k (i + 1)
theorem txG_F (w : List V) : ∀ k i, txG (drP w) k i = txF w k i
  | 0, _ => rfl
  | k + 1, i => by unfold txG txF; rw [txG_F w k]; rfl
theorem txG_0 : ∀ k i, txG (fun _ => 0) k i = []
  | 0, _ => rfl
  | k + 1, i => by unfold txG; rw [txG_0 k]; rfl
/-- a page: fresh, or written to -/
def PgAt (B b : Nat) (l : List UInt8) (w : World) : Prop := (l = [] ∧ w.heap[b]? = some (.cells #[.pointer none, .slice none 0 0] 65 (0, 0))) ∨ (l ≠ [] ∧ Lib.IsBuilder 65 5 B b (Lib.byteCells l) w)
theorem PgAt.is {B b : Nat} {l : List UInt8} {w : World} (h : PgAt B b l w) (hB : B ≤ b) : Lib.IsBuilder 65 5 B b (Lib.byteCells l) w := by
  rcases h with ⟨rfl, h⟩ | ⟨_, h⟩
  · exact .inl ⟨hB, _, h, World.ownsRow_nil .., by simp [Value.ownBlock]⟩
  · exact h
theorem PgAt.step {B b : Nat} {l : List UInt8} {w w' : World} (h : PgAt B b l w) (hb : Below w.heap.size w w') : PgAt B b l w' := by
  rcases h with ⟨rfl, h⟩ | ⟨h1, h⟩
  · refine .inl ⟨rfl, (hb.block b ?_).trans h⟩
    rcases Nat.lt_or_ge b w.heap.size with h' | h'
    · exact h'
    · simp [Array.getElem?_eq_none h'] at h
  · exact .inr ⟨h1, isB_step h hb⟩
theorem ext_below {O : Nat → Prop} {w w' : World} (hb : Below w.heap.size w w') : Ext no no O O w w' := Ext.mk hb.size (fun _ _ e => e) (fun b hlt _ => hb.block b hlt) fun _ h => .inl h
theorem ook_below {O : Nat → Prop} {w w' : World} (hO : OOk O w) (hb : Below w.heap.size w w') : OOk O w' := ⟨fun b h => Nat.lt_of_lt_of_le (hO.lt b h) hb.size, hO.good.below hb⟩
set_option maxRecDepth 1000000 in
set_option maxHeartbeats 2000000 in
theorem each_calls (tv : V) (c : Value) (g : Int → Int) (hget : ∀ i, SpecV Tryd.prog 10 [tv, .int .i64 i] (.int .i64 (g i))) (hg0 : ∀ i, 0 ≤ g i ∧ g i ≤ 1000) (O : Nat → Prop) (w0 : World) (hO : OOk O w0) (hv : VRep no O w0 tv c) (b : Nat) (w : World) (hw : Below w0.heap.size w0 w) (hp : PgAt w0.heap.size b [] w) (hb : w0.heap.size ≤ b) :
    Calls Tryd.prog 32 #[c, .func (.func 33) #[.pointer (some ⟨b, 0, none⟩)] #[]] w fun e w' => e = .returned (.tuple #[]) ∧ PgAt w0.heap.size b (txG g 16 0) w' ∧ Below w0.heap.size w0 w' := by
  have HP := hid hp
  clear hp
  go_enter Tryd.func32, Tryd.ntmps32
  go_wp2
  go_loopw [6] (fun v wr => ∃ (i : Int) (l : List UInt8), v = .int .i64 i ∧ 0 ≤ i ∧ i ≤ 16 ∧ Below w0.heap.size w0 wr ∧ Hid (PgAt w0.heap.size b l wr) ∧ Hid (l ++ txG g (16 - i).toNat i = txG g 16 0) ∧ (l.length : Int) ≤ 100 * i) (fun v _ => 16 - (intOf v).toNat)
  case atStart => exact ⟨0, [], rfl, Int.le_refl _, by omega, hw, hid HP.out, hid rfl, by simp⟩
  case round =>
    obtain ⟨i, l, rfl, h0, h1, hbw, HW, HS, hl⟩ := hrel
    by_cases hi : i < 16
    · have hgv := hg0 i
      have hk : (16 - i).toNat = (16 - (i + 1)).toNat + 1 := by omega
      have HT : Hid (txG g (16 - i).toNat i = (if g i > 0 then lnT i (g i) else []) ++ txG g (16 - (i + 1)).toNat (i + 1)) := hid (by rw [hk]; rfl)
      go_wp2_with fail
      refine (spec_int (hget i) (ook_below hO hbw) (.cons (hv.ext (ext_below hbw)) (.cons (.one (.int nofun) rfl) .nil))).mono ?_
      rintro e w1 ⟨rfl, hb1⟩
      have hbw1 : Below w0.heap.size w0 w1 := hbw.trans (hb1.mono hbw.size)
      have HW1 := hid (HW.out.step hb1)
      by_cases hp0 : g i > 0
      · have hln := lnT_len (r := i) (m := g i) (by omega) (by omega)
        go_wp2_with fail
        refine (line_calls w0.heap.size b l i (g i) w1 (HW1.out.is hb) (by omega) (by omega) (by omega) hbw1.size (hO.good.below hbw1)).mono ?_
        rintro e w2 ⟨rfl, hB2, hb2⟩
        go_wp2
        go_roundw
        case rel =>
          refine ⟨i + 1, l ++ lnT i (g i), by rfl, by omega, by omega, hbw1.trans hb2, hid (.inr ⟨by unfold lnT; simp, hB2⟩), hid ?_, ?_⟩
          · rw [← HS.out, HT.out, if_pos (show g i > 0 by omega), List.append_assoc]
          · rw [List.length_append]; omega
        case measure => simp only [intOf]; omega
      · go_wp2
        go_roundw
        case rel =>
          refine ⟨i + 1, l, by rfl, by omega, by omega, hbw1, HW1, hid ?_, by omega⟩
          rw [← HS.out, HT.out, if_neg (show ¬ g i > 0 by omega), List.nil_append]
        case measure => simp only [intOf]; omega
    · go_wp2
      go_end0
      refine ⟨rfl, ?_, hbw⟩
      have e : txG g 16 0 = l := by rw [← HS.out, show (16 - i).toNat = 0 by omega]; simp [txG]
      rw [e]
      exact HW.out
set_option maxRecDepth 1000000 in
set_option maxHeartbeats 2000000 in
theorem text_calls (tv : V) (c : Value) (g : Int → Int) (hget : ∀ i, SpecV Tryd.prog 10 [tv, .int .i64 i] (.int .i64 (g i))) (hg0 : ∀ i, 0 ≤ g i ∧ g i ≤ 1000) (O : Nat → Prop) (w : World) (hO : OOk O w) (hv : VRep no O w tv c) :
    Calls Tryd.prog 11 #[c] w fun e w' => e = .returned (.string ⟨(txG g 16 0).toArray⟩) ∧ Below w.heap.size w w' := by
  go_enter Tryd.func11, Tryd.ntmps11
  go_wp2_with fail
  refine (each_calls tv c g hget hg0 O w hO hv w.heap.size _ ((Below.refl _ _).alloc (Nat.le_refl _) _) (.inl ⟨rfl, ?_⟩) (Nat.le_refl _)).mono ?_
  · exact Array.getElem?_push_size
  rintro e w1 ⟨rfl, hp1, hb1⟩
  rcases hp1 with ⟨hnil, hk⟩ | ⟨hne, hB⟩
  · go_wp2_with fail
    refine (pgStringNil w.heap.size w.heap.size _ _ hk).mono ?_
    rintro e w2 ⟨rfl, hb2⟩
    go_wp2
    go_ret
    exact ⟨by rw [hnil]; rfl, hb1.trans hb2⟩
  · go_wp2_with fail
    refine (pgString w.heap.size w.heap.size _ _ hB hne).mono ?_
    rintro e w2 ⟨rfl, hb2⟩
    go_wp2
    go_ret
    exact ⟨rfl, hb1.trans hb2⟩
def cDrText : List V → Option (V × Bool)
  | [.vref (.agg [.arr 16 (.int .i64)]) (.agg [.arr (.int .i64) 16 w])] => some (.str (txF w 16 0), drWB w)
  | [.nil .ptr] => some (.str [], true)
  | _ => none
theorem drText_con : ∀ vs v, cDrText vs = some (v, true) → SpecV Tryd.prog 11 vs v := by
  intro vs v h; unfold cDrText at h; split at h
  · rename_i w
    injection h with h; injection h with h hb; subst h
    intro O W cs hO hv
    obtain ⟨a, rfl, ha⟩ := hv.one_inv
    refine (text_calls _ a (drP w) (get_spec w) (drP_rng (drW_of hb)) O W hO ha).mono ?_
    rintro e w' ⟨rfl, hb'⟩
    rw [txG_F]
    exact ⟨hb', _, rfl, .val (.one .str rfl)⟩
  · injection h with h; injection h with h hb; subst h
    intro O W cs hO hv
    obtain ⟨a, rfl, ha⟩ := hv.one_inv
    refine (text_calls _ a (fun _ => 0) get_nil (fun _ => by decide) O W hO ha).mono ?_
    rintro e w' ⟨rfl, hb'⟩
    rw [txG_0]
    exact ⟨hb', _, rfl, .val (.one .str rfl)⟩
  · cases h
end Go.Proofs.YtpoeinajedbfoaaDoor
