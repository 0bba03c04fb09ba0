/- Part Gez of the proof: laws used by the law of this claim. -/
import Derived.Test.YtpoeinajedbfoaaDoorGex
set_option linter.all false
namespace Go.Proofs.YtpoeinajedbfoaaDoor
open Go Go.Am Go.RowKit Go.Mix Go.Bas
set_option maxRecDepth 100000
/-- the text of an event -/
def evTx (v : V) : List UInt8 := evT (toI ((toG v).headD .undef)) (toI ((toG v).tail.headD .undef)) (toA ((toG ((toG v).tail.tail.headD .undef)).headD .undef)) (toI ((toG ((toG v).tail.tail.headD .undef)).tail.headD .undef)) (toA ((toG ((toG v).tail.tail.headD .undef)).tail.tail.headD .undef)) (toI ((toG ((toG v).tail.tail.headD .undef)).tail.tail.tail.headD .undef)) (toI ((toG v).tail.tail.tail.headD .undef)) (toI ((toG v).tail.tail.tail.tail.headD .undef)) (toI ((toG v).tail.tail.tail.tail.tail.headD .undef))
def evOk (v : V) : Bool := evR (toI ((toG v).tail.headD .undef)) (toI ((toG ((toG v).tail.tail.headD .undef)).tail.headD .undef)) (toI ((toG ((toG v).tail.tail.headD .undef)).tail.tail.tail.headD .undef)) (toI ((toG v).tail.tail.tail.headD .undef)) (toI ((toG v).tail.tail.tail.tail.headD .undef)) (toI ((toG v).tail.tail.tail.tail.tail.headD .undef))
theorem evTx_spec {v : V} (h : evOk v = true) : SpecV Tryd.prog 17 [evE v] (.str (evTx v)) := by
  have e : cEvText [evE v] = some (.str (evTx v), evOk v) := rfl
  rw [h] at e
  exact EvText_con _ _ e
theorem evT_len {kd nd : Int} {s : List UInt8} {sp : Int} {d : List UInt8} {dp a b v : Int} (h : evR nd sp dp a b v = true) : (evT kd nd s sp d dp a b v).length ≤ 500 := by
  unfold evR at h
  simp only [Bool.and_eq_true] at h
  obtain ⟨hn, hs, hd, ha, hb, hv⟩ := h
  have hn := i64B_of hn
  have hs := i64B_of hs
  have hd := i64B_of hd
  have ha := i64B_of ha
  have hb := i64B_of hb
  have hv := i64B_of hv
  have l1 := evNm_len kd
  have l2 := itoa_len hn.1 hn.2
  have l3 := itoa_len ha.1 ha.2
  have l4 := itoa_len hb.1 hb.2
  have l5 := itoa_len hv.1 hv.2
  have l6 := evNl a
  have l7 := evFl_len (s := s) (d := d) hs.1 hs.2 hd.1 hd.2
  unfold evT evAb
  cases (kd == 1) <;> cases (kd == 9) <;> cases (v == 0) <;> cases (evFz s sp d dp)
  all_goals
    simp only [un1, un2, jo1, jo2, cond_true, cond_false, List.length_append, List.length_cons, List.length_nil]
    omega
theorem evTx_len {v : V} (h : evOk v = true) : (evTx v).length ≤ 500 := evT_len h
theorem getD_mem {l : List V} {i : Nat} (h : i < l.length) : l.getD i .undef ∈ l := by
  rw [List.getD_eq_getElem?_getD, List.getElem?_eq_getElem h]
  exact List.getElem_mem h
def evAll (l : List V) : Bool := Nat.ble l.length 1000 && l.all evOk
theorem evAll_at {l : List V} (h : evAll l = true) {i : Nat} (hi : i < l.length) : evOk (l.getD i .undef) = true := List.all_eq_true.1 ((Bool.and_eq_true _ _).mp h).2 _ (getD_mem hi)
/-- events as lines -/
def evShw (l : List V) : List UInt8 := shF evTx l
def cEvShow : List V → Option (V × Bool)
  | [.rows (.agg [.int .i64, .int .i64, .agg [.barr 16, .int .i64, .barr 16, .int .i64], .int .i64, .int .i64, .int .i64]) l] => some (.str (evShw l), evAll l)
  | _ => none
theorem EvShow_con : ∀ vs v, cEvShow vs = some (v, true) → SpecV Tryd.prog 19 vs v := by
  intro vs v h; unfold cEvShow at h; split at h
  · rename_i l
    injection h with h; injection h with h hb; subst h
    intro O w cs hO hv
    obtain ⟨a, rfl, ha⟩ := hv.one_inv
    obtain ⟨A, n, c, rfl, hn⟩ : ∃ A n c, a = .slice A n c ∧ n = l.length := by
      cases ha with
      | one h _ => cases h with | rows hn => exact ⟨_, _, _, rfl, hn⟩
      | agg _ ha => cases ha
    refine (show_calls l A n c evTx O w hO ha hn (fun i hi => evTx_spec (evAll_at hb hi)) (fun i hi => by have := evTx_len (evAll_at hb hi); omega) (Nat.le_of_ble_eq_true ((Bool.and_eq_true _ _).mp hb).1)).mono ?_
    rintro e w' ⟨rfl, hb'⟩
    exact ⟨hb', _, rfl, .val (.one .str rfl)⟩
  · cases h
noncomputable def af_lives42 : AF := afOf Tryd.prog Tryd.f16 []
theorem af_lives42_ok : AllOk Tryd.prog 16 af_lives42 := .flat Tryd.func16 (by kernel_rfl) (by kernel_rfl) (by kernel_rfl) (by kernel_rfl) (by kernel_rfl)
noncomputable def GElv42 : List (Nat × Con) := [(23, .val [.rows (.agg [.int .i64, .int .i64, .agg [.barr 16, .int .i64, .barr 16, .int .i64], .int .i64, .int .i64, .int .i64]), .int .i64] cEvLast), (17, .val [.agg [.int .i64, .int .i64, .agg [.barr 16, .int .i64, .barr 16, .int .i64], .int .i64, .int .i64, .int .i64]] cEvText), (24, .val [.rows (.agg [.int .i64, .int .i64, .agg [.barr 16, .int .i64, .barr 16, .int .i64], .int .i64, .int .i64, .int .i64]), .int .i64] cEvCount), (20, .val [.int .i64] cEvName), (19, .val [.rows (.agg [.int .i64, .int .i64, .agg [.barr 16, .int .i64, .barr 16, .int .i64], .int .i64, .int .i64, .int .i64])] cEvShow)]
theorem GElv42_ok : GOk Tryd.prog GElv42 := .cons (enters_of Tryd.func23 (by kernel_rfl) rfl) EvLast_con <| .cons (enters_of Tryd.func17 (by kernel_rfl) rfl) EvText_con <| .cons (enters_of Tryd.func24 (by kernel_rfl) rfl) EvCount_con <| .cons (enters_of Tryd.func20 (by kernel_rfl) rfl) EvName_con <| .cons (enters_of Tryd.func19 (by kernel_rfl) rfl) EvShow_con <| .nil
noncomputable def IElv42 : List (Nat × AF) := []
theorem IElv42_ok : IOk Tryd.prog IElv42 := .nil
noncomputable def CElv42 : List (Nat × (List Nat × (S → Option (Bool × Tr)))) := []
theorem CElv42_ok : COk Tryd.prog CElv42 := .nil
noncomputable def XElv42 : List (Nat × (List Sh × (List V → PT))) := []
theorem XElv42_ok : XOk Tryd.prog XElv42 := .nil
noncomputable def Elv42 : Env := ⟨Tryd.prog, GElv42, IElv42, CElv42, XElv42⟩
theorem Elv42_ok : EnvOk Elv42 := ⟨by kernel_rfl, GElv42_ok, IElv42_ok, CElv42_ok, XElv42_ok⟩
theorem lives42_t : callV Elv42 af_lives42 [] = some (.bool true) := by kernel_rfl
theorem lives42_con : ∀ vs v, cTru vs = some (v, true) → SpecV Tryd.prog 16 vs v := by
  intro vs v h; unfold cTru at h; split at h
  · injection h with h; injection h with h hb; subst h
    exact callV_ok Elv42_ok af_lives42_ok (lives42_t)
  · cases h
/-! ### EventTexts -/
def etS (l : List V) (kd : Int) (s : List UInt8) (i : Int) : S := ⟨[(0, .rows evSh l), (1, .int .i64 kd), (5, .str s), (6, .int .i64 i)], [], 0, true, 50⟩
def etX (l : List V) (kd : Int) (s : List UInt8) : S := ⟨[(0, .rows evSh l), (1, .int .i64 kd), (5, .str s)], [], 0, true, 50⟩
structure EtI where
  (l : List V)
  (kd : Int)
  (s : List UInt8)
  (i : Int)
def etGet (s : S) : EtI := ⟨toR (lkD s 0), toI (lkD s 1), toS (lkD s 5), toI (lkD s 6)⟩
def etI (x : EtI) : Prop := 0 ≤ x.i ∧ x.i ≤ x.l.length ∧ evAll x.l = true ∧ x.s.length ≤ 501 * x.i
def etO (x : EtI) : Tr := .leaf (.exit 0) (etX x.l x.kd (x.s ++ evShw (x.l.drop x.i.toNat)))
noncomputable def etG : S → Option (Bool × Tr) := gX etGet (fun x => etS x.l x.kd x.s x.i) etI etO
noncomputable def af_EventTexts : AF := afOf Tryd.prog Tryd.f5 [.sum [0, 1, 5, 6] [] etG]
noncomputable def etC : AC := (af_EventTexts.ac.sums.headD (.skip, [], [], fun _ => none)).1
noncomputable def GEeve : List (Nat × Con) := [(17, .val [.agg [.int .i64, .int .i64, .agg [.barr 16, .int .i64, .barr 16, .int .i64], .int .i64, .int .i64, .int .i64]] cEvText), (18, .val [.agg [.int .i64, .int .i64, .agg [.barr 16, .int .i64, .barr 16, .int .i64], .int .i64, .int .i64, .int .i64]] cEvText), (19, .val [.rows (.agg [.int .i64, .int .i64, .agg [.barr 16, .int .i64, .barr 16, .int .i64], .int .i64, .int .i64, .int .i64])] cEvShow), (20, .val [.int .i64] cEvName), (21, .val [.int .i64] cEvName), (16, .val [] cTru)]
theorem GEeve_ok : GOk Tryd.prog GEeve := .cons (enters_of Tryd.func17 (by kernel_rfl) rfl) EvText_con <| .cons (enters_of Tryd.func18 (by kernel_rfl) rfl) rEvText_con <| .cons (enters_of Tryd.func19 (by kernel_rfl) rfl) EvShow_con <| .cons (enters_of Tryd.func20 (by kernel_rfl) rfl) EvName_con <| .cons (enters_of Tryd.func21 (by kernel_rfl) rfl) rEvName_con <| .cons (enters_of Tryd.func16 (by kernel_rfl) rfl) lives42_con <| .nil
noncomputable def IEeve : List (Nat × AF) := []
theorem IEeve_ok : IOk Tryd.prog IEeve := .nil
noncomputable def CEeve : List (Nat × (List Nat × (S → Option (Bool × Tr)))) := []
theorem CEeve_ok : COk Tryd.prog CEeve := .nil
noncomputable def XEeve : List (Nat × (List Sh × (List V → PT))) := []
theorem XEeve_ok : XOk Tryd.prog XEeve := .nil
noncomputable def Eeve : Env := ⟨Tryd.prog, GEeve, IEeve, CEeve, XEeve⟩
theorem Eeve_ok : EnvOk Eeve := ⟨by kernel_rfl, GEeve_ok, IEeve_ok, CEeve_ok, XEeve_ok⟩
theorem et_b (l : List V) (kd : Int) (s : List UInt8) (i : Int) : aev Eeve (inlN Eeve 6) etC (bodyF (Am.ways [0, 1, 5, 6] [0, 1, 5] [4]) []) (etS l kd s i) = bif decide (i < (l.length : Int)) then bif andT (andT (andT (andT true (inB i l.length)) (evOk (l.getD i.toNat .undef))) (inB i l.length)) (evOk (l.getD i.toNat .undef)) && true then bif !(evTx (l.getD i.toNat .undef) == evTx (l.getD i.toNat .undef)) then some (Ex.ret, ⟨[(4, .bool false)], [], 0, true, 50⟩) else bif andT (andT (andT (andT true (inB i l.length)) (evOk (l.getD i.toNat .undef))) ((s.length + (evTx (l.getD i.toNat .undef)).length).ble 9223372036854775807)) (((s ++ evTx (l.getD i.toNat .undef)).length + 1).ble 9223372036854775807) then some (Ex.normal, etS l kd (s ++ evTx (l.getD i.toNat .undef) ++ [10]) (IntKind.i64.wrap (i + 1))) else none else none else some (Ex.exit 0, etX l kd s) := by kernel_rfl
theorem evAll_len {l : List V} (h : evAll l = true) : l.length ≤ 1000 := Nat.le_of_ble_eq_true ((Bool.and_eq_true _ _).mp h).1
theorem et_loop : LoopOk Tryd.prog etC.erase [] etG := by
  refine loopX_ok Eeve_ok (d := 6) (AC.flat_ok (by kernel_rfl)) (Am.ways [0, 1, 5, 6] [0, 1, 5] [4]) [] etGet _ etO etI (fun x => (x.l.length - x.i).toNat) (fun _ => rfl) ?_
  rintro ⟨l, kd, s, i⟩ ⟨h0, h1, hA, h2⟩
  simp only at h0 h1 hA h2 ⊢
  have hL := evAll_len hA
  rw [et_b]
  by_cases hi : i < l.length
  · have hk : i.toNat < l.length := by omega
    have hn : (i + 1).toNat = i.toNat + 1 := by omega
    have hok := evAll_at hA hk
    have hln := evTx_len hok
    have hd : evShw (l.drop i.toNat) = evTx (l.getD i.toNat .undef) ++ [10] ++ evShw (l.drop (i.toNat + 1)) := by rw [drop_next (d := .undef) hk]; rfl
    generalize l.getD i.toNat .undef = v at hok hln hd ⊢
    refine .inl ⟨⟨l, kd, s ++ evTx v ++ [10], i + 1⟩, ?_, ⟨by dsimp only; omega, by dsimp only; omega, hA, ?_⟩, by dsimp only; omega, leaf_eq ?_⟩
    · rw [dec_t hi, inB_t h0 hi, hok, w64 (x := i + 1) (by omega) (by omega), show (evTx v == evTx v) = true by simp]
      simp only [List.length_append, List.length_cons, List.length_nil]
      simp (disch := omega) only [dec_t, dec_f, inB_t, inC_t, andT_t, cond_true, cond_false, Bool.and_true, Bool.true_and, w64, wu32, wu8, nble_t, nblt_t, Bool.not_true, Bool.not_false, Bool.not_not, ieq_t, ieq_f, ine_t, ine_f, true_and, and_true, andT_l]
      try rfl
    · dsimp only
      simp only [List.length_append, List.length_cons, List.length_nil]
      omega
    · unfold etO
      dsimp only
      rw [hn, hd]
      simp only [List.append_assoc]
  · refine .inr ⟨.exit 0, etX l kd s, ?_, nofun, ?_⟩
    · rw [dec_f hi]
      rfl
    · unfold etO
      dsimp only
      rw [List.drop_of_length_le (by omega), show evShw [] = [] from rfl, List.append_nil]
      exact .leaf
theorem af_EventTexts_ok : AllOk Tryd.prog 5 af_EventTexts := .sums Tryd.func5 (by kernel_rfl) (by kernel_rfl) (by kernel_rfl) (by kernel_rfl) (sums_one (c := etC) (ts := [0, 1, 5, 6]) (by kernel_rfl) (by kernel_rfl) et_loop)
def sh_EventTexts : List Sh := [.rows (.agg [.int .i64, .int .i64, .agg [.barr 16, .int .i64, .barr 16, .int .i64], .int .i64, .int .i64, .int .i64]), .int .i64]
theorem EventTexts_t (l : List V) (kd : Int) : callV Eeve af_EventTexts [.rows (.agg [.int .i64, .int .i64, .agg [.barr 16, .int .i64, .barr 16, .int .i64], .int .i64, .int .i64, .int .i64]) l, .int .i64 kd] =
 bif decide ((↑l.length : Int) > (60 : Int)) then some (V.bool true)
 else
 bif okG (etS l kd [] (0 : Int) = etS l kd [] (0 : Int) ∧ etI { l := l, kd := kd, s := [], i := (0 : Int) }) then
 bif evShw l == [] ++ evShw (List.drop (0 : Nat) l) then
 bif evNm kd == evNm kd then bif andT true (evAll l) then some (V.bool true) else none
 else bif andT true (evAll l) then some (V.bool false) else none
 else bif andT true (evAll l) then some (V.bool false) else none
 else none := by kernel_rfl

def sh_evone : List Sh := [.agg [.int .i64, .int .i64, .agg [.barr 16, .int .i64, .barr 16, .int .i64], .int .i64, .int .i64, .int .i64]]
theorem evOk_of {x : V} (h : inR 140737488351232 evSh x = true) : evOk x = true := by
  have h : inRs 140737488351232 sh_evone [x] = true := by
    show (inR 140737488351232 evSh x && true) = true
    rw [h]; rfl
  generalize hx : [x] = xs at h
  obtain ⟨zx1, zl1, rfl, zh1, zr1⟩ := inRs_cons h; clear h
  obtain ⟨zg1, rfl, za1⟩ := inR_agg zh1; clear zh1
  obtain ⟨zx2, zl2, rfl, zh2, zr2⟩ := inRs_cons za1; clear za1
  obtain ⟨kd, rfl, hkd0, hkd1⟩ := inR_i64 zh2; clear zh2
  obtain ⟨zx3, zl3, rfl, zh3, zr3⟩ := inRs_cons zr2; clear zr2
  obtain ⟨nd, rfl, hnd0, hnd1⟩ := inR_i64 zh3; clear zh3
  obtain ⟨zx4, zl4, rfl, zh4, zr4⟩ := inRs_cons zr3; clear zr3
  obtain ⟨zg4, rfl, za4⟩ := inR_agg zh4; clear zh4
  obtain ⟨zx5, zl5, rfl, zh5, zr5⟩ := inRs_cons za4; clear za4
  obtain ⟨s, rfl, hs⟩ := inR_barr zh5; clear zh5
  obtain ⟨zx6, zl6, rfl, zh6, zr6⟩ := inRs_cons zr5; clear zr5
  obtain ⟨sp, rfl, hsp0, hsp1⟩ := inR_i64 zh6; clear zh6
  obtain ⟨zx7, zl7, rfl, zh7, zr7⟩ := inRs_cons zr6; clear zr6
  obtain ⟨d, rfl, hd⟩ := inR_barr zh7; clear zh7
  obtain ⟨zx8, zl8, rfl, zh8, zr8⟩ := inRs_cons zr7; clear zr7
  obtain ⟨dp, rfl, hdp0, hdp1⟩ := inR_i64 zh8; clear zh8
  obtain rfl := inRs_nil zr8; clear zr8
  obtain ⟨zx9, zl9, rfl, zh9, zr9⟩ := inRs_cons zr4; clear zr4
  obtain ⟨a, rfl, ha0, ha1⟩ := inR_i64 zh9; clear zh9
  obtain ⟨zx10, zl10, rfl, zh10, zr10⟩ := inRs_cons zr9; clear zr9
  obtain ⟨b, rfl, hb0, hb1⟩ := inR_i64 zh10; clear zh10
  obtain ⟨zx11, zl11, rfl, zh11, zr11⟩ := inRs_cons zr10; clear zr10
  obtain ⟨v, rfl, hv0, hv1⟩ := inR_i64 zh11; clear zh11
  obtain rfl := inRs_nil zr11; clear zr11
  obtain rfl := inRs_nil zr1; clear zr1
  injection hx with hx _
  subst hx
  show evR nd sp dp a b v = true
  unfold evR i64B
  simp only [Bool.and_eq_true, decide_eq_true_eq]
  refine ⟨⟨?_, ?_⟩, ⟨?_, ?_⟩, ⟨?_, ?_⟩, ⟨?_, ?_⟩, ⟨?_, ?_⟩, ?_, ?_⟩ <;> omega
theorem EventTexts_v : ∀ xs, inRs 140737488351232 sh_EventTexts xs = true → callV Eeve af_EventTexts xs = some (.bool true) := by
  intro xs h
  obtain ⟨zx1, zl1, rfl, zh1, zr1⟩ := inRs_cons h; clear h
  obtain ⟨l, rfl, hl, ql⟩ := inR_rows zh1; clear zh1
  obtain ⟨zx2, zl2, rfl, zh2, zr2⟩ := inRs_cons zr1; clear zr1
  obtain ⟨kd, rfl, hkd0, hkd1⟩ := inR_i64 zh2; clear zh2
  obtain rfl := inRs_nil zr2; clear zr2
  rw [EventTexts_t]
  by_cases c : l.length > 60
  · rw [dec_t (show (l.length : Int) > 60 by omega)]
    rfl
  · have hA : evAll l = true := (Bool.and_eq_true _ _).mpr ⟨Nat.ble_eq.mpr (by omega), List.all_eq_true.2 fun v hv => evOk_of (ql v hv)⟩
    rw [dec_f (show ¬ (l.length : Int) > 60 by omega), okG_t ⟨rfl, Int.le_refl _, by dsimp only; omega, hA, by simp⟩, hA]
    simp
    try rfl
end Go.Proofs.YtpoeinajedbfoaaDoor
