/- Part Gez of the proof: laws used by the law of this claim. -/
import Derived.Test.YtpoeinajedbfoaaDoorGex
set_option linter.all false
namespace Go.Proofs.YtpoeinajedbfoaaDoor
open Go Go.Am Go.RowKit Go.Mix Go.Bas
set_option maxRecDepth 100000
/-- the text of an event -/
def evTx (v : V) : List UInt8 := evT (toI ((toG v).headD .undef)) (toI ((toG v).tail.headD .undef)) (toA ((toG ((toG v).tail.tail.headD .undef)).headD .undef)) (toI ((toG ((toG v).tail.tail.headD .undef)).tail.headD .undef)) (toA ((toG ((toG v).tail.tail.headD .undef)).tail.tail.headD .undef)) (toI ((toG ((toG v).tail.tail.headD .undef)).tail.tail.tail.headD .undef)) (toI ((toG v).tail.tail.tail.headD .undef)) (toI ((toG v).tail.tail.tail.tail.headD .undef)) (toI ((toG v).tail.tail.tail.tail.tail.headD .undef))
def evOk (v : V) : Bool := evR (toI ((toG v).tail.headD .undef)) (toI ((toG ((toG v).tail.tail.headD .undef)).tail.headD .undef)) (toI ((toG ((toG v).tail.tail.headD .undef)).tail.tail.tail.headD .undef)) (toI ((toG v).tail.tail.tail.headD .undef)) (toI ((toG v).tail.tail.tail.tail.headD .undef)) (toI ((toG v).tail.tail.tail.tail.tail.headD .undef))
theorem evTx_spec {v : V} (h : evOk v = true) : SpecV Tryd.prog 17 [evE v] (.str (evTx v)) := by
  have e : cEvText [evE v] = some (.str (evTx v), evOk v) := rfl
  rw [h] at e
  exact EvText_con _ _ e
theorem evT_len {kd nd : Int} {s : List UInt8} {sp : Int} {d : List UInt8} {dp a b v : Int} (h : evR nd sp dp a b v = true) : (evT kd nd s sp d dp a b v).length ≤ 500 := by
  unfold evR at h
  simp only [Bool.and_eq_true] at h
  obtain ⟨hn, hs, hd, ha, hb, hv⟩ := h
  have hn := i64B_of hn
  have hs := i64B_of hs
  have hd := i64B_of hd
  have ha := i64B_of ha
  have hb := i64B_of hb
  have hv := i64B_of hv
  have l1 := evNm_len kd
  have l2 := itoa_len hn.1 hn.2
  have l3 := itoa_len ha.1 ha.2
  have l4 := itoa_len hb.1 hb.2
  have l5 := itoa_len hv.1 hv.2
  have l6 := evNl a
  have l7 := evFl_len (s := s) (d := d) hs.1 hs.2 hd.1 hd.2
  unfold evT evAb
  cases (kd == 1) <;> cases (kd == 9) <;> cases (v == 0) <;> cases (evFz s sp d dp)
  all_goals
    simp only [un1, un2, jo1, jo2, cond_true, cond_false, List.length_append, List.length_cons, List.length_nil]
    omega
theorem evTx_len {v : V} (h : evOk v = true) : (evTx v).length ≤ 500 := evT_len h
theorem getD_mem {l : List V} {i : Nat} (h : i < l.length) : l.getD i .undef ∈ l := by
  rw [List.getD_eq_getElem?_getD, List.getElem?_eq_getElem h]
  exact List.getElem_mem h
def evAll (l : List V) : Bool := Nat.ble l.length 1000 && l.all evOk
theorem evAll_at {l : List V} (h : evAll l = true) {i : Nat} (hi : i < l.length) : evOk (l.getD i .undef) = true := List.all_eq_true.1 ((Bool.and_eq_true _ _).mp h).2 _ (getD_mem hi)
/-- events as lines -/
def evShw (l : List V) : List UInt8 := shF evTx l
def cEvShow : List V → Option (V × Bool)
  | [.rows (.agg [.int .i64, .int .i64, .agg [.barr 16, .int .i64, .barr 16, .int .i64], .int .i64, .int .i64, .int .i64]) l] => some (.str (evShw l), evAll l)
  | _ => none
theorem EvShow_con : ∀ vs v, cEvShow vs = some (v, true) → SpecV Tryd.prog 19 vs v := by
  intro vs v h; unfold cEvShow at h; split at h
  · rename_i l
    injection h with h; injection h with h hb; subst h
    intro O w cs hO hv
    obtain ⟨a, rfl, ha⟩ := hv.one_inv
    obtain ⟨A, n, c, rfl, hn⟩ : ∃ A n c, a = .slice A n c ∧ n = l.length := by
      cases ha with
      | one h _ => cases h with | rows hn => exact ⟨_, _, _, rfl, hn⟩
      | agg _ ha => cases ha
    refine (show_calls l A n c evTx O w hO ha hn (fun i hi => evTx_spec (evAll_at hb hi)) (fun i hi => by have := evTx_len (evAll_at hb hi); omega) (Nat.le_of_ble_eq_true ((Bool.and_eq_true _ _).mp hb).1)).mono ?_
    rintro e w' ⟨rfl, hb'⟩
    exact ⟨hb', _, rfl, .val (.one .str rfl)⟩
  · cases h
noncomputable def af_lives42 : AF := afOf Tryd.prog Tryd.f16 []
theorem af_lives42_ok : AllOk Tryd.prog 16 af_lives42 := .flat Tryd.func16 (by kernel_rfl) (by kernel_rfl) (by kernel_rfl) (by kernel_rfl) (by kernel_rfl)
noncomputable def GElv42 : List (Nat × Con) := [(23, .val [.rows (.agg [.int .i64, .int .i64, .agg [.barr 16, .int .i64, .barr 16, .int .i64], .int .i64, .int .i64, .int .i64]), .int .i64] cEvLast), (17, .val [.agg [.int .i64, .int .i64, .agg [.barr 16, .int .i64, .barr 16, .int .i64], .int .i64, .int .i64, .int .i64]] cEvText), (24, .val [.rows (.agg [.int .i64, .int .i64, .agg [.barr 16, .int .i64, .barr 16, .int .i64], .int .i64, .int .i64, .int .i64]), .int .i64] cEvCount), (20, .val [.int .i64] cEvName), (19, .val [.rows (.agg [.int .i64, .int .i64, .agg [.barr 16, .int .i64, .barr 16, .int .i64], .int .i64, .int .i64, .int .i64])] cEvShow)]
theorem GElv42_ok : GOk Tryd.prog GElv42 := .cons (enters_of Tryd.func23 (by kernel_rfl) rfl) EvLast_con <| .cons (enters_of Tryd.func17 (by kernel_rfl) rfl) EvText_con <| .cons (enters_of Tryd.func24 (by kernel_rfl) rfl) EvCount_con <| .cons (enters_of Tryd.func20 (by kernel_rfl) rfl) EvName_con <| .cons (enters_of Tryd.func19 (by kernel_rfl) rfl) EvShow_con <| .nil
noncomputable def IElv42 : List (Nat × AF) := []
theorem IElv42_ok : IOk Tryd.prog IElv42 := .nil
noncomputable def CElv42 : List (Nat × (List Nat × (S → Option (Bool × Tr)))) := []
theorem CElv42_ok : COk Tryd.prog CElv42 := .nil
noncomputable def XElv42 : List (Nat × (List Sh × (List V → PT))) := []
theorem XElv42_ok : XOk Tryd.prog XElv42 := .nil
noncomputable def Elv42 : Env := ⟨Tryd.prog, GElv42, IElv42, CElv42, XElv42⟩
theorem Elv42_ok : EnvOk Elv42 := ⟨by kernel_rfl, GElv42_ok, IElv42_ok, CElv42_ok, XElv42_ok⟩
theorem lives42_t : callV Elv42 af_lives42 [] = some (.bool true) := by kernel_rfl
theorem lives42_con : ∀ vs v, cTru vs = some (v, true) → SpecV Tryd.prog 16 vs v := by
  intro vs v h; unfold cTru at h; split at h
  · injection h with h; injection h with h hb; subst h
    exact callV_ok Elv42_ok af_lives42_ok (lives42_t)
  · cases h
/-! ### EventTexts -/
end Go.Proofs.YtpoeinajedbfoaaDoor

namespace Go.Proofs.YtpoeinajedbfoaaDoor
open Go Go.Am Go.RowKit Go.Mix Go.Bas
set_option maxRecDepth 100000
/-! ### EventFinds -/
def efF (s : List UInt8) (sp : Int) (d : List UInt8) (dp : Int) : V := .agg [.barr 16 s, .int .i64 sp, .barr 16 d, .int .i64 dp]
def efS (l : List V) (kd : Int) (f : V) (o : List V) (m k : Int) (a : V) (i : Int) : S := ⟨[(0, .rows evSh l), (2, .int .i64 kd), (4, .ref 0 [] 0 evFl), (7, .own 1 o.length evSh), (8, .int .i64 m), (9, .int .i64 k), (10, .ref 2 [] 0 evSh), (11, .int .i64 i)], [(0, some (.var evFl f)), (1, evW o), (2, some (.var evSh (evE a)))], 3, true, 95⟩
def efX (l : List V) (kd : Int) (o : List V) (m k : Int) (a : V) : S := ⟨[(0, .rows evSh l), (2, .int .i64 kd), (7, .own 0 o.length evSh), (8, .int .i64 m), (9, .int .i64 k), (10, .ref 1 [] 0 evSh)], [(0, evW o), (1, some (.var evSh (evE a)))], 2, true, 95⟩
def efEq (x y : V) : Bool := toI ((toG x).headD .undef) == toI ((toG y).headD .undef) && (toI ((toG x).tail.headD .undef) == toI ((toG y).tail.headD .undef) && ((toA ((toG ((toG x).tail.tail.headD .undef)).headD .undef) == toA ((toG ((toG y).tail.tail.headD .undef)).headD .undef) && (toI ((toG ((toG x).tail.tail.headD .undef)).tail.headD .undef) == toI ((toG ((toG y).tail.tail.headD .undef)).tail.headD .undef) && (toA ((toG ((toG x).tail.tail.headD .undef)).tail.tail.headD .undef) == toA ((toG ((toG y).tail.tail.headD .undef)).tail.tail.headD .undef) && (toI ((toG ((toG x).tail.tail.headD .undef)).tail.tail.tail.headD .undef) == toI ((toG ((toG y).tail.tail.headD .undef)).tail.tail.tail.headD .undef) && true)))) && (toI ((toG x).tail.tail.tail.headD .undef) == toI ((toG y).tail.tail.tail.headD .undef) && (toI ((toG x).tail.tail.tail.tail.headD .undef) == toI ((toG y).tail.tail.tail.tail.headD .undef) && (toI ((toG x).tail.tail.tail.tail.tail.headD .undef) == toI ((toG y).tail.tail.tail.tail.tail.headD .undef) && true)))))
theorem efEq_E (v : V) : efEq (evE v) v = true := by
  show efEq v v = true
  unfold efEq
  simp
/-- the last of a kind -/
def efA (kd : Int) : List V → V → V
  | [], a => a
  | v :: l, a => efA kd l (if thKP (.int .i64 kd) v = true then v else a)
theorem efA_last (kd : Int) : ∀ (l : List V) (a : V), (thKl l kd).getLastD (evE a) = evE (efA kd l a)
  | [], a => rfl
  | v :: l, a => by
    have ih := efA_last kd l
    unfold thKl thE at ih ⊢
    rw [List.filter_cons]
    unfold efA
    by_cases c : thKP (.int .i64 kd) v = true
    · rw [if_pos c, if_pos c, List.map_cons, List.getLastD_cons, ih]
    · rw [if_neg c, if_neg c, ih]
theorem thLa_eq (l : List V) (kd : Int) : thLa l kd = evE (efA kd l evZ) := efA_last kd l evZ
structure EfI where
  (l : List V)
  (kd : Int)
  (f : V)
  (o : List V)
  (m k : Int)
  (a : V)
  (i : Int)
def efGet (s : S) : EfI := ⟨toR (lkD s 0), toI (lkD s 2), bkD s 0, toR (bkD s 1), toI (lkD s 8), toI (lkD s 9), bkD s 2, toI (lkD s 11)⟩
def efI (x : EfI) : Prop := 0 ≤ x.i ∧ x.i ≤ x.l.length ∧ x.l.length ≤ 1000 ∧ 0 ≤ x.k ∧ x.k ≤ x.i ∧ 0 ≤ x.m ∧ x.m ≤ x.i ∧ x.o.drop x.k.toNat = thE (thFP x.f) (x.l.drop x.i.toNat) ∧ ∃ s sp d dp, x.f = efF s sp d dp
def efO (x : EfI) : Tr := .leaf (.exit 0) (efX x.l x.kd x.o (x.m + (thKl (x.l.drop x.i.toNat) x.kd).length) (x.k + (thE (thFP x.f) (x.l.drop x.i.toNat)).length) (efA x.kd (x.l.drop x.i.toNat) x.a))
noncomputable def efG : S → Option (Bool × Tr) := gX efGet (fun x => efS x.l x.kd x.f x.o x.m x.k x.a x.i) efI efO
noncomputable def af_EventFinds : AF := afOf Tryd.prog Tryd.f6 [.sum [0, 2, 4, 7, 8, 9, 10, 11] [] efG]
noncomputable def efC : AC := (af_EventFinds.ac.sums.headD (.skip, [], [], fun _ => none)).1
noncomputable def GEevf : List (Nat × Con) := [(22, .val [.rows (.agg [.int .i64, .int .i64, .agg [.barr 16, .int .i64, .barr 16, .int .i64], .int .i64, .int .i64, .int .i64]), .agg [.barr 16, .int .i64, .barr 16, .int .i64]] cEvOf), (23, .val [.rows (.agg [.int .i64, .int .i64, .agg [.barr 16, .int .i64, .barr 16, .int .i64], .int .i64, .int .i64, .int .i64]), .int .i64] cEvLast), (24, .val [.rows (.agg [.int .i64, .int .i64, .agg [.barr 16, .int .i64, .barr 16, .int .i64], .int .i64, .int .i64, .int .i64]), .int .i64] cEvCount), (16, .val [] cTru)]
theorem GEevf_ok : GOk Tryd.prog GEevf := .cons (enters_of Tryd.func22 (by kernel_rfl) rfl) EvOf_con <| .cons (enters_of Tryd.func23 (by kernel_rfl) rfl) EvLast_con <| .cons (enters_of Tryd.func24 (by kernel_rfl) rfl) EvCount_con <| .cons (enters_of Tryd.func16 (by kernel_rfl) rfl) lives42_con <| .nil
noncomputable def IEevf : List (Nat × AF) := []
theorem IEevf_ok : IOk Tryd.prog IEevf := .nil
noncomputable def CEevf : List (Nat × (List Nat × (S → Option (Bool × Tr)))) := []
theorem CEevf_ok : COk Tryd.prog CEevf := .nil
noncomputable def XEevf : List (Nat × (List Sh × (List V → PT))) := []
theorem XEevf_ok : XOk Tryd.prog XEevf := .nil
noncomputable def Eevf : Env := ⟨Tryd.prog, GEevf, IEevf, CEevf, XEevf⟩
theorem Eevf_ok : EnvOk Eevf := ⟨by kernel_rfl, GEevf_ok, IEevf_ok, CEevf_ok, XEevf_ok⟩
def efR : Option (Ex × S) := some (Ex.ret, ⟨[(6, .bool false)], [], 0, true, 95⟩)
/-- a round, behind the kind -/
def efM (l : List V) (kd : Int) (f : V) (o : List V) (m k : Int) (a : V) (i : Int) : Option (Ex × S) := bif thFP f (l.getD i.toNat .undef) then (bif decide (k ≥ (o.length : Int)) then efR else bif andT (andT true (inB k o.length)) (inB i l.length) && true then (bif !(efEq (o.getD k.toNat .undef) (l.getD i.toNat .undef)) then efR else some (.normal, efS l kd f o m (IntKind.i64.wrap (k + 1)) a (IntKind.i64.wrap (i + 1)))) else none) else some (.normal, efS l kd f o m k a (IntKind.i64.wrap (i + 1)))
theorem ef_b (l : List V) (kd : Int) (s : List UInt8) (sp : Int) (d : List UInt8) (dp : Int) (o : List V) (m k : Int) (a : V) (i : Int) : aev Eevf (inlN Eevf 6) efC (bodyF (Am.ways [0, 2, 4, 7, 8, 9, 10, 11] [0, 2, 7, 8, 9, 10] [6]) []) (efS l kd (efF s sp d dp) o m k a i) =
 bif decide (i < (l.length : Int)) then bif andT true (inB i l.length) then bif thKP (.int .i64 kd) (l.getD i.toNat .undef) then (bif andT true (inB i l.length) then bif andT true (inB i l.length) && true then efM l kd (efF s sp d dp) o (IntKind.i64.wrap (m + 1)) k (l.getD i.toNat .undef) i else none else none) else (bif andT true (inB i l.length) && true then efM l kd (efF s sp d dp) o m k a i else none) else none
 else some (.exit 0, efX l kd o m k a) := by kernel_rfl
theorem thKl_cons {l : List V} {i : Nat} (kd : Int) (h : i < l.length) : thKl (l.drop i) kd = if thKP (.int .i64 kd) (l.getD i .undef) = true then evE (l.getD i .undef) :: thKl (l.drop (i + 1)) kd else thKl (l.drop (i + 1)) kd := thE_cons h
theorem efA_cons {l : List V} {i : Nat} (kd : Int) (a : V) (h : i < l.length) : efA kd (l.drop i) a = efA kd (l.drop (i + 1)) (if thKP (.int .i64 kd) (l.getD i .undef) = true then l.getD i .undef else a) := by
  rw [drop_next (d := .undef) h]; rfl
theorem drop_head {o : List V} {k : Nat} {y : V} {m : List V} (h : o.drop k = y :: m) : k < o.length ∧ o.getD k .undef = y ∧ o.drop (k + 1) = m := by
  have hk : k < o.length := by
    rcases Nat.lt_or_ge k o.length with h' | h'
    · exact h'
    · rw [List.drop_of_length_le h'] at h; cases h
  rw [drop_next (d := .undef) hk] at h
  injection h with h1 h2
  exact ⟨hk, h1, h2⟩
set_option maxRecDepth 8000 in
set_option maxHeartbeats 1000000 in
theorem ef_loop : LoopOk Tryd.prog efC.erase [] efG := by
  refine loopX_ok Eevf_ok (d := 6) (AC.flat_ok (by kernel_rfl)) (Am.ways [0, 2, 4, 7, 8, 9, 10, 11] [0, 2, 7, 8, 9, 10] [6]) [] efGet _ efO efI (fun x => (x.l.length - x.i).toNat) (fun _ => rfl) ?_
  rintro ⟨l, kd, f, o, m, k, a, i⟩ ⟨h0, h1, hL, hk0, hk1, hm0, hm1, ho, s, sp, d, dp, hf⟩
  simp only at h0 h1 hL hk0 hk1 hm0 hm1 ho hf ⊢
  subst hf
  rw [ef_b]
  by_cases hi : i < l.length
  · have hn : i.toNat < l.length := by omega
    have hj : (i + 1).toNat = i.toNat + 1 := by omega
    rw [thE_cons hn] at ho
    have hK := thKl_cons kd hn
    have hA := efA_cons kd a hn
    have hF := thE_cons (P := thFP (efF s sp d dp)) hn
    -- the part behind the kind
    have main : ∀ (m' : Int) (a' : V), 0 ≤ m' → m' ≤ i + 1 → (m' + ((thKl (l.drop (i.toNat + 1)) kd).length : Int) = m + ((thKl (l.drop i.toNat) kd).length : Int)) → efA kd (l.drop (i.toNat + 1)) a' = efA kd (l.drop i.toNat) a →
        ∃ x' : EfI, efM l kd (efF s sp d dp) o m' k a' i = some (.normal, efS x'.l x'.kd x'.f x'.o x'.m x'.k x'.a x'.i) ∧ efI x' ∧ (x'.l.length - x'.i).toNat < (l.length - i).toNat ∧ efO x' = efO ⟨l, kd, efF s sp d dp, o, m, k, a, i⟩ := by
      intro m' a' q0 q1 q2 q3
      unfold efM
      by_cases hp : thFP (efF s sp d dp) (l.getD i.toNat .undef) = true
      · rw [if_pos hp] at ho hF
        obtain ⟨g1, g2, g3⟩ := drop_head ho
        have hkn : (k + 1).toNat = k.toNat + 1 := by omega
        refine ⟨⟨l, kd, efF s sp d dp, o, m', k + 1, a', i + 1⟩, ?_, ⟨by dsimp only; omega, by dsimp only; omega, hL, by dsimp only; omega, by dsimp only; omega, q0, by dsimp only; omega, by dsimp only; rw [hkn, hj]; exact g3, _, _, _, _, rfl⟩, by dsimp only; omega, ?_⟩
        · rw [hp, dec_f (show ¬ k ≥ (o.length : Int) by omega), inB_t (show 0 ≤ k by omega) (by omega), inB_t h0 hi, g2, efEq_E, w64 (x := k + 1) (by omega) (by omega), w64 (x := i + 1) (by omega) (by omega)]
          rfl
        · unfold efO
          dsimp only
          rw [hj, hF, q3, q2, List.length_cons]
          congr 2
          omega
      · rw [if_neg hp] at ho hF
        refine ⟨⟨l, kd, efF s sp d dp, o, m', k, a', i + 1⟩, ?_, ⟨by dsimp only; omega, by dsimp only; omega, hL, hk0, by dsimp only; omega, q0, by dsimp only; omega, by dsimp only; rw [hj]; exact ho, _, _, _, _, rfl⟩, by dsimp only; omega, ?_⟩
        · rw [Bool.eq_false_iff.mpr hp, w64 (x := i + 1) (by omega) (by omega)]
          rfl
        · unfold efO
          dsimp only
          rw [hj, hF, q3, q2]
    rw [dec_t hi, inB_t h0 hi]
    by_cases hk : thKP (.int .i64 kd) (l.getD i.toNat .undef) = true
    · rw [if_pos hk] at hK hA
      rw [hk, w64 (x := m + 1) (by omega) (by omega)]
      obtain ⟨x', y1, y2, y3, y4⟩ := main (m + 1) (l.getD i.toNat .undef) (by omega) (by omega) (by rw [hK, List.length_cons]; omega) hA.symm
      exact .inl ⟨x', y1, y2, y3, leaf_eq y4⟩
    · rw [if_neg hk] at hK hA
      rw [Bool.eq_false_iff.mpr hk]
      obtain ⟨x', y1, y2, y3, y4⟩ := main m a hm0 (by omega) (by rw [hK]) hA.symm
      exact .inl ⟨x', y1, y2, y3, leaf_eq y4⟩
  · refine .inr ⟨.exit 0, efX l kd o m k a, ?_, nofun, ?_⟩
    · rw [dec_f hi]
      rfl
    · unfold efO
      dsimp only
      rw [List.drop_of_length_le (by omega)]
      have e1 : (m + ((thKl [] kd).length : Int)) = m := Int.add_zero m
      have e2 : (k + ((thE (thFP (efF s sp d dp)) []).length : Int)) = k := Int.add_zero k
      rw [e1, e2]
      exact .leaf
theorem af_EventFinds_ok : AllOk Tryd.prog 6 af_EventFinds := .sums Tryd.func6 (by kernel_rfl) (by kernel_rfl) (by kernel_rfl) (by kernel_rfl) (sums_one (c := efC) (ts := [0, 2, 4, 7, 8, 9, 10, 11]) (by kernel_rfl) (by kernel_rfl) ef_loop)
def sh_EventFinds : List Sh := [.rows (.agg [.int .i64, .int .i64, .agg [.barr 16, .int .i64, .barr 16, .int .i64], .int .i64, .int .i64, .int .i64]), .agg [.barr 16, .int .i64, .barr 16, .int .i64], .int .i64]
def efN (l : List V) (b : Bool) : Option V := bif andT true (decide (l.length ≤ 1000)) then some (.bool b) else none
theorem EventFinds_u (l : List V) (s : List UInt8) (sp : Int) (d : List UInt8) (dp kd : Int) : callV Eevf af_EventFinds [.rows evSh l, .agg [.barr 16 s, .int .i64 sp, .barr 16 d, .int .i64 dp], .int .i64 kd] =
 bif decide ((l.length : Int) > 100) then some (.bool true) else bif andT true (decide (l.length ≤ 1000)) then bif okG (efS l kd (efF s sp d dp) (thFl l s sp d dp) 0 0 evZ 0 = efS l kd (efF s sp d dp) (thFl l s sp d dp) 0 0 evZ 0 ∧ efI ⟨l, kd, efF s sp d dp, thFl l s sp d dp, 0, 0, evZ, 0⟩) then (bif andT true (decide (l.length ≤ 1000)) then
 (bif (0 + ((thE (thFP (efF s sp d dp)) (l.drop 0)).length : Int)) == ((thFl l s sp d dp).length : Int) then
 (bif ((thKl l kd).length : Int) == 0 + ((thKl (l.drop 0) kd).length : Int) then
 (bif (!(thKl l kd).isEmpty) == decide (0 + ((thKl (l.drop 0) kd).length : Int) > 0) then
 (bif efEq (thLa l kd) (efA kd (l.drop 0) evZ) then efN l true else efN l false) else efN l false) else efN l false) else some (.bool false)) else none) else none else none := by kernel_rfl
theorem EventFinds_v : ∀ xs, inRs 140737488351232 sh_EventFinds xs = true → callV Eevf af_EventFinds xs = some (.bool true) := by
  intro xs h
  obtain ⟨zx1, zl1, rfl, zh1, zr1⟩ := inRs_cons h; clear h
  obtain ⟨l, rfl, hl, ql⟩ := inR_rows zh1; clear zh1
  obtain ⟨zx2, zl2, rfl, zh2, zr2⟩ := inRs_cons zr1; clear zr1
  obtain ⟨zg2, rfl, za2⟩ := inR_agg zh2; clear zh2
  obtain ⟨zx3, zl3, rfl, zh3, zr3⟩ := inRs_cons za2; clear za2
  obtain ⟨s, rfl, hs⟩ := inR_barr zh3; clear zh3
  obtain ⟨zx4, zl4, rfl, zh4, zr4⟩ := inRs_cons zr3; clear zr3
  obtain ⟨sp, rfl, hsp0, hsp1⟩ := inR_i64 zh4; clear zh4
  obtain ⟨zx5, zl5, rfl, zh5, zr5⟩ := inRs_cons zr4; clear zr4
  obtain ⟨d, rfl, hd⟩ := inR_barr zh5; clear zh5
  obtain ⟨zx6, zl6, rfl, zh6, zr6⟩ := inRs_cons zr5; clear zr5
  obtain ⟨dp, rfl, hdp0, hdp1⟩ := inR_i64 zh6; clear zh6
  obtain rfl := inRs_nil zr6; clear zr6
  obtain ⟨zx7, zl7, rfl, zh7, zr7⟩ := inRs_cons zr2; clear zr2
  obtain ⟨kd, rfl, hkd0, hkd1⟩ := inR_i64 zh7; clear zh7
  obtain rfl := inRs_nil zr7; clear zr7
  have hu := EventFinds_u l s sp d dp kd
  unfold evSh at hu
  rw [hu]
  by_cases c : l.length > 100
  · rw [dec_t (show (l.length : Int) > 100 by omega)]
    rfl
  · rw [dec_f (show ¬ (l.length : Int) > 100 by omega), okG_t ⟨rfl, Int.le_refl _, by dsimp only; omega, by dsimp only; omega, Int.le_refl _, Int.le_refl _, Int.le_refl _, Int.le_refl _, rfl, _, _, _, _, rfl⟩, List.drop_zero]
    have e1 : ((0 + ((thE (thFP (efF s sp d dp)) l).length : Int)) == ((thFl l s sp d dp).length : Int)) = true := by
      rw [Int.zero_add]
      exact beq_self_eq_true _
    have e2 : (((thKl l kd).length : Int) == 0 + ((thKl l kd).length : Int)) = true := by simp
    have e3 : ((!(thKl l kd).isEmpty) == decide (0 + ((thKl l kd).length : Int) > 0)) = true := by
      cases thKl l kd with
      | nil => rfl
      | cons y m => simp
    have e4 : efEq (thLa l kd) (efA kd l evZ) = true := by
      rw [thLa_eq]
      exact efEq_E _
    unfold efN
    rw [e1, e2, e3, e4, dec_t (show l.length ≤ 1000 by omega)]
    rfl
end Go.Proofs.YtpoeinajedbfoaaDoor
