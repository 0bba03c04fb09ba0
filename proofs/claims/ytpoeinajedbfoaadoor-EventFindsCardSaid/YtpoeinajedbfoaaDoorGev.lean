/- Part Gev of the proof: laws used by the law of this claim. -/
import Derived.Test.YtpoeinajedbfoaaDoorGz
import Derived.Test.YtpoeinajedbfoaaDoorGf
import Derived.Test.YtpoeinajedbfoaaDoorGe
set_option linter.all false
namespace Go.Proofs.YtpoeinajedbfoaaDoor
open Go Go.Am Go.RowKit Go.Mix Go.Bas
set_option maxRecDepth 100000
def evFl : Sh := .agg [.barr 16, .int .i64, .barr 16, .int .i64]
def evSh : Sh := .agg [.int .i64, .int .i64, .agg [.barr 16, .int .i64, .barr 16, .int .i64], .int .i64, .int .i64, .int .i64]
def evW (o : List V) : Option Blk := some (.row 42 evSh (.rows evSh o))
/-- an event, in full -/
def evE (v : V) : V := eta evSh v
def evZ : V := .agg [.int .i64 0, .int .i64 0, .agg [.barr 16 (List.replicate 16 0), .int .i64 0, .barr 16 (List.replicate 16 0), .int .i64 0], .int .i64 0, .int .i64 0, .int .i64 0]
def thX0 : S := ⟨[(5, .nils)], [], 0, true, 23⟩
def thX1 (o : List V) : S := ⟨[(5, .own 0 o.length evSh)], [(0, evW o)], 1, true, 23⟩
def thA (F : FuncId) (sh : Sh) (l : List V) (u : V) (i : Int) : S := ⟨[(1, .fn F [] [.ref 0 [] 0 sh]), (5, .nils), (8, .rows evSh l), (9, .int .i64 l.length), (10, .int .i64 i)], [(0, some (.var sh u))], 1, true, 23⟩
def thB (F : FuncId) (sh : Sh) (l : List V) (u : V) (i : Int) (o : List V) : S := ⟨[(1, .fn F [] [.ref 0 [] 0 sh]), (5, .own 1 o.length evSh), (8, .rows evSh l), (9, .int .i64 l.length), (10, .int .i64 i)], [(0, some (.var sh u)), (1, evW o)], 2, true, 23⟩
structure ThI where
  (l : List V)
  (u : V)
  (i : Int)
  (o : List V)
def thGet (s : S) : ThI := ⟨toR (lkD s 8), bkD s 0, toI (lkD s 10), toR (bkD s 1)⟩
def thSt (F : FuncId) (sh : Sh) (x : ThI) : S := if x.o.isEmpty = true then thA F sh x.l x.u x.i else thB F sh x.l x.u x.i x.o
/-- the events of which it is so -/
def thE (P : V → Bool) (l : List V) : List V := (l.filter P).map evE
def thJ (J : V → Prop) (x : ThI) : Prop := 0 ≤ x.i ∧ x.i ≤ x.l.length ∧ x.l.length ≤ 1000 ∧ x.o.length ≤ x.i ∧ J x.u
def thO (P : V → V → Bool) (x : ThI) : Tr := .br ((x.o ++ thE (P x.u) (x.l.drop x.i.toNat)).isEmpty) (.leaf (.exit 0) thX0) (.leaf (.exit 0) (thX1 (x.o ++ thE (P x.u) (x.l.drop x.i.toNat))))
noncomputable def thG (F : FuncId) (sh : Sh) (J : V → Prop) (P : V → V → Bool) : S → Option (Bool × Tr) := gX thGet (thSt F sh) (thJ J) (thO P)
/-- what a round comes to -/
def thRA (F : FuncId) (sh : Sh) (P : V → V → Bool) (l : List V) (u : V) (i : Int) : Option (Ex × S) := bif decide (i < l.length) then bif andT true (inB i l.length) then bif P u (l.getD i.toNat .undef) then some (.normal, thB F sh l u (IntKind.i64.wrap (i + 1)) (evE (l.getD i.toNat .undef) :: List.replicate 0 evZ)) else some (.normal, thA F sh l u (IntKind.i64.wrap (i + 1))) else none else some (.exit 0, thX0)
def thRB (F : FuncId) (sh : Sh) (P : V → V → Bool) (l : List V) (u : V) (i : Int) (o : List V) : Option (Ex × S) := bif decide (i < l.length) then bif andT true (inB i l.length) then bif P u (l.getD i.toNat .undef) then (bif andT true (((o ++ evE (l.getD i.toNat .undef) :: List.replicate 0 evZ).length * 88).ble 140737488355328) then some (.normal, thB F sh l u (IntKind.i64.wrap (i + 1)) (o ++ evE (l.getD i.toNat .undef) :: List.replicate 0 evZ)) else none) else some (.normal, thB F sh l u (IntKind.i64.wrap (i + 1)) o) else none else some (.exit 0, thX1 o)
noncomputable def af_EvOf1 : AF := afOf Tryd.prog Tryd.f49 []
theorem af_EvOf1_ok : AllOk Tryd.prog 49 af_EvOf1 := .flat Tryd.func49 (by kernel_rfl) (by kernel_rfl) (by kernel_rfl) (by kernel_rfl) (by kernel_rfl)
noncomputable def af_EvKi1 : AF := afOf Tryd.prog Tryd.f63 []
theorem af_EvKi1_ok : AllOk Tryd.prog 63 af_EvKi1 := .flat Tryd.func63 (by kernel_rfl) (by kernel_rfl) (by kernel_rfl) (by kernel_rfl) (by kernel_rfl)
noncomputable def GEeva : List (Nat × Con) := []
theorem GEeva_ok : GOk Tryd.prog GEeva := .nil
noncomputable def IEeva : List (Nat × AF) := [(49, af_EvOf1), (63, af_EvKi1)]
theorem IEeva_ok : IOk Tryd.prog IEeva := .cons af_EvOf1_ok <| .cons af_EvKi1_ok <| .nil
noncomputable def CEeva : List (Nat × (List Nat × (S → Option (Bool × Tr)))) := []
theorem CEeva_ok : COk Tryd.prog CEeva := .nil
noncomputable def XEeva : List (Nat × (List Sh × (List V → PT))) := []
theorem XEeva_ok : XOk Tryd.prog XEeva := .nil
noncomputable def Eeva : Env := ⟨Tryd.prog, GEeva, IEeva, CEeva, XEeva⟩
theorem Eeva_ok : EnvOk Eeva := ⟨by kernel_rfl, GEeva_ok, IEeva_ok, CEeva_ok, XEeva_ok⟩
theorem thE_cons {P : V → Bool} {l : List V} {i : Nat} (h : i < l.length) : thE P (l.drop i) = if P (l.getD i .undef) = true then evE (l.getD i .undef) :: thE P (l.drop (i + 1)) else thE P (l.drop (i + 1)) := by
  rw [drop_next (d := .undef) h]
  unfold thE
  rw [List.filter_cons]
  split <;> rfl
theorem th_loop {c : AC} (F : FuncId) (sh : Sh) (J : V → Prop) (P : V → V → Bool) (hfl : LoopsOk Eeva.P c)
    (hA : ∀ l u i, J u → aev Eeva (inlN Eeva 6) c (bodyF (Am.ways [1, 5, 8, 9, 10] [5] []) []) (thA F sh l u i) = thRA F sh P l u i)
    (hB : ∀ l u i o, J u → aev Eeva (inlN Eeva 6) c (bodyF (Am.ways [1, 5, 8, 9, 10] [5] []) []) (thB F sh l u i o) = thRB F sh P l u i o) : LoopOk Tryd.prog c.erase [] (thG F sh J P) := by
  refine loopX_ok Eeva_ok (d := 6) hfl (Am.ways [1, 5, 8, 9, 10] [5] []) [] thGet (thSt F sh) (thO P) (thJ J) (fun x => (x.l.length - x.i).toNat) (fun x => by unfold thSt; split <;> rfl) ?_
  rintro ⟨l, u, i, o⟩ ⟨h0, h1, h2, h3, hu⟩
  simp only at h0 h1 h2 h3 hu ⊢
  cases o with
  | nil =>
    rw [show thSt F sh ⟨l, u, i, []⟩ = thA F sh l u i from if_pos rfl, hA l u i hu]
    unfold thRA
    by_cases hi : i < l.length
    · have hk : i.toNat < l.length := by omega
      have hn : (i + 1).toNat = i.toNat + 1 := by omega
      rw [dec_t hi, inB_t h0 hi, w64 (x := i + 1) (by omega) (by omega)]
      cases hp : P u (l.getD i.toNat .undef) with
      | true =>
        refine .inl ⟨⟨l, u, i + 1, [evE (l.getD i.toNat .undef)]⟩, rfl, ⟨by dsimp only; omega, by dsimp only; omega, h2, by show (1 : Int) ≤ i + 1; omega, hu⟩, by dsimp only; omega, leaf_eq ?_⟩
        unfold thO
        dsimp only
        rw [hn, thE_cons hk, if_pos hp]
        rfl
      | false =>
        refine .inl ⟨⟨l, u, i + 1, []⟩, rfl, ⟨by dsimp only; omega, by dsimp only; omega, h2, by dsimp only; simp; omega, hu⟩, by dsimp only; omega, leaf_eq ?_⟩
        unfold thO
        dsimp only
        rw [hn, thE_cons hk, if_neg (by rw [hp]; decide)]
    · refine .inr ⟨.exit 0, thX0, ?_, nofun, ?_⟩
      · rw [dec_f hi]
        rfl
      · unfold thO
        dsimp only
        rw [List.drop_of_length_le (by omega)]
        exact leaf_t rfl .leaf
  | cons y o =>
    rw [show thSt F sh ⟨l, u, i, y :: o⟩ = thB F sh l u i (y :: o) from if_neg (by simp), hB l u i _ hu]
    unfold thRB
    by_cases hi : i < l.length
    · have hk : i.toNat < l.length := by omega
      have hn : (i + 1).toNat = i.toNat + 1 := by omega
      have ho : ((y :: o) ++ evE (l.getD i.toNat .undef) :: List.replicate 0 evZ).length = (y :: o).length + 1 := by simp
      rw [dec_t hi, inB_t h0 hi, w64 (x := i + 1) (by omega) (by omega), ho, show (((y :: o).length + 1) * 88).ble 140737488355328 = true from Nat.ble_eq.mpr (by omega)]
      cases hp : P u (l.getD i.toNat .undef) with
      | true =>
        refine .inl ⟨⟨l, u, i + 1, (y :: o) ++ [evE (l.getD i.toNat .undef)]⟩, rfl, ⟨by dsimp only; omega, by dsimp only; omega, h2, by show ((((y :: o) ++ [evE (l.getD i.toNat .undef)]).length : Nat) : Int) ≤ i + 1; rw [List.length_append, List.length_singleton]; omega, hu⟩, by dsimp only; omega, leaf_eq ?_⟩
        unfold thO
        dsimp only
        rw [hn, thE_cons hk, if_pos hp, List.append_assoc]
        rfl
      | false =>
        refine .inl ⟨⟨l, u, i + 1, y :: o⟩, rfl, ⟨by dsimp only; omega, by dsimp only; omega, h2, by dsimp only; omega, hu⟩, by dsimp only; omega, leaf_eq ?_⟩
        unfold thO
        dsimp only
        rw [hn, thE_cons hk, if_neg (by rw [hp]; decide)]
    · refine .inr ⟨.exit 0, thX1 (y :: o), ?_, nofun, ?_⟩
      · rw [dec_f hi]
        rfl
      · unfold thO
        dsimp only
        rw [List.drop_of_length_le (by omega), show thE (P u) [] = [] from rfl, List.append_nil]
        exact leaf_f rfl .leaf
/-! ### F -/
def thFJ (u : V) : Prop := ∃ s sp d dp, u = .agg [.barr 16 s, .int .i64 sp, .barr 16 d, .int .i64 dp]
def thFP (u v : V) : Bool := toA ((toG ((toG v).tail.tail.headD .undef)).headD .undef) == toA ((toG u).headD .undef) && (toI ((toG ((toG v).tail.tail.headD .undef)).tail.headD .undef) == toI ((toG u).tail.headD .undef) && (toA ((toG ((toG v).tail.tail.headD .undef)).tail.tail.headD .undef) == toA ((toG u).tail.tail.headD .undef) && (toI ((toG ((toG v).tail.tail.headD .undef)).tail.tail.tail.headD .undef) == toI ((toG u).tail.tail.tail.headD .undef) && true)))
noncomputable def thFG : S → Option (Bool × Tr) := thG 49 evFl thFJ thFP
noncomputable def af_EvThF : AF := afOf Tryd.prog Tryd.f48 [.sum [1, 5, 8, 9, 10] [] thFG]
noncomputable def thFC : AC := (af_EvThF.ac.sums.headD (.skip, [], [], fun _ => none)).1
theorem thF_A (l : List V) (s : List UInt8) (sp : Int) (d : List UInt8) (dp : Int) (i : Int) : aev Eeva (inlN Eeva 6) thFC (bodyF (Am.ways [1, 5, 8, 9, 10] [5] []) []) (thA 49 evFl l (.agg [.barr 16 s, .int .i64 sp, .barr 16 d, .int .i64 dp]) i) = thRA 49 evFl thFP l (.agg [.barr 16 s, .int .i64 sp, .barr 16 d, .int .i64 dp]) i := by kernel_rfl
theorem thF_B (l : List V) (s : List UInt8) (sp : Int) (d : List UInt8) (dp : Int) (i : Int) (o : List V) : aev Eeva (inlN Eeva 6) thFC (bodyF (Am.ways [1, 5, 8, 9, 10] [5] []) []) (thB 49 evFl l (.agg [.barr 16 s, .int .i64 sp, .barr 16 d, .int .i64 dp]) i o) = thRB 49 evFl thFP l (.agg [.barr 16 s, .int .i64 sp, .barr 16 d, .int .i64 dp]) i o := by kernel_rfl
theorem thF_loop : LoopOk Tryd.prog thFC.erase [] thFG := by
  refine th_loop 49 evFl thFJ thFP (AC.flat_ok (by kernel_rfl)) ?_ ?_
  · rintro l u i ⟨s, sp, d, dp, rfl⟩
    exact thF_A ..
  · rintro l u i o ⟨s, sp, d, dp, rfl⟩
    exact thF_B ..
theorem af_EvThF_ok : AllOk Tryd.prog 48 af_EvThF := .sums Tryd.func48 (by kernel_rfl) (by kernel_rfl) (by kernel_rfl) (by kernel_rfl) (sums_one (c := thFC) (ts := [1, 5, 8, 9, 10]) (by kernel_rfl) (by kernel_rfl) thF_loop)
/-! ### K -/
def thKJ (u : V) : Prop := ∃ k, u = .int .i64 k
def thKP (u v : V) : Bool := toI ((toG v).headD .undef) == toI u
noncomputable def thKG : S → Option (Bool × Tr) := thG 63 (.int .i64) thKJ thKP
noncomputable def af_EvThK : AF := afOf Tryd.prog Tryd.f48 [.sum [1, 5, 8, 9, 10] [] thKG]
noncomputable def thKC : AC := (af_EvThK.ac.sums.headD (.skip, [], [], fun _ => none)).1
theorem thK_A (l : List V) (k : Int) (i : Int) : aev Eeva (inlN Eeva 6) thKC (bodyF (Am.ways [1, 5, 8, 9, 10] [5] []) []) (thA 63 (.int .i64) l (.int .i64 k) i) = thRA 63 (.int .i64) thKP l (.int .i64 k) i := by kernel_rfl
theorem thK_B (l : List V) (k : Int) (i : Int) (o : List V) : aev Eeva (inlN Eeva 6) thKC (bodyF (Am.ways [1, 5, 8, 9, 10] [5] []) []) (thB 63 (.int .i64) l (.int .i64 k) i o) = thRB 63 (.int .i64) thKP l (.int .i64 k) i o := by kernel_rfl
theorem thK_loop : LoopOk Tryd.prog thKC.erase [] thKG := by
  refine th_loop 63 (.int .i64) thKJ thKP (AC.flat_ok (by kernel_rfl)) ?_ ?_
  · rintro l u i ⟨k, rfl⟩
    exact thK_A ..
  · rintro l u i o ⟨k, rfl⟩
    exact thK_B ..
theorem af_EvThK_ok : AllOk Tryd.prog 48 af_EvThK := .sums Tryd.func48 (by kernel_rfl) (by kernel_rfl) (by kernel_rfl) (by kernel_rfl) (sums_one (c := thKC) (ts := [1, 5, 8, 9, 10]) (by kernel_rfl) (by kernel_rfl) thK_loop)
/-! ### as contracts -/
noncomputable def af_EvOf : AF := afOf Tryd.prog Tryd.f22 []
theorem af_EvOf_ok : AllOk Tryd.prog 22 af_EvOf := .flat Tryd.func22 (by kernel_rfl) (by kernel_rfl) (by kernel_rfl) (by kernel_rfl) (by kernel_rfl)
noncomputable def GEevb : List (Nat × Con) := []
theorem GEevb_ok : GOk Tryd.prog GEevb := .nil
noncomputable def IEevb : List (Nat × AF) := [(48, af_EvThF), (49, af_EvOf1)]
theorem IEevb_ok : IOk Tryd.prog IEevb := .cons af_EvThF_ok <| .cons af_EvOf1_ok <| .nil
noncomputable def CEevb : List (Nat × (List Nat × (S → Option (Bool × Tr)))) := []
theorem CEevb_ok : COk Tryd.prog CEevb := .nil
noncomputable def XEevb : List (Nat × (List Sh × (List V → PT))) := []
theorem XEevb_ok : XOk Tryd.prog XEevb := .nil
noncomputable def Eevb : Env := ⟨Tryd.prog, GEevb, IEevb, CEevb, XEevb⟩
theorem Eevb_ok : EnvOk Eevb := ⟨by kernel_rfl, GEevb_ok, IEevb_ok, CEevb_ok, XEevb_ok⟩
theorem EvOf_u (l : List V) (s : List UInt8) (sp : Int) (d : List UInt8) (dp : Int) : callV Eevb af_EvOf [.rows evSh l, .agg [.barr 16 s, .int .i64 sp, .barr 16 d, .int .i64 dp]] = bif okG (thA 49 evFl l (.agg [.barr 16 s, .int .i64 sp, .barr 16 d, .int .i64 dp]) 0 = thSt 49 evFl ⟨l, .agg [.barr 16 s, .int .i64 sp, .barr 16 d, .int .i64 dp], 0, []⟩ ∧ thJ thFJ ⟨l, .agg [.barr 16 s, .int .i64 sp, .barr 16 d, .int .i64 dp], 0, []⟩) then bif ([] ++ thE (thFP (.agg [.barr 16 s, .int .i64 sp, .barr 16 d, .int .i64 dp])) (l.drop 0)).isEmpty then some (.ownv 42 (.rows evSh [])) else some (.ownv 42 (.rows evSh ([] ++ thE (thFP (.agg [.barr 16 s, .int .i64 sp, .barr 16 d, .int .i64 dp])) (l.drop 0)))) else none := by kernel_rfl
theorem EvOf_v (l : List V) (s : List UInt8) (sp : Int) (d : List UInt8) (dp : Int) (h : l.length ≤ 1000) : callV Eevb af_EvOf [.rows evSh l, .agg [.barr 16 s, .int .i64 sp, .barr 16 d, .int .i64 dp]] = some (.ownv 42 (.rows evSh (thE (thFP (.agg [.barr 16 s, .int .i64 sp, .barr 16 d, .int .i64 dp])) l))) := by
  rw [EvOf_u, okG_t ⟨rfl, Int.le_refl _, by dsimp only; omega, h, Int.le_refl _, ⟨_, _, _, _, rfl⟩⟩, List.drop_zero, List.nil_append]
  cases thE (thFP (.agg [.barr 16 s, .int .i64 sp, .barr 16 d, .int .i64 dp])) l <;> rfl
/-- the events of a flow, of a kind -/
def thFl (l : List V) (s : List UInt8) (sp : Int) (d : List UInt8) (dp : Int) : List V := thE (thFP (.agg [.barr 16 s, .int .i64 sp, .barr 16 d, .int .i64 dp])) l
def thKl (l : List V) (k : Int) : List V := thE (thKP (.int .i64 k)) l
def cEvOf : List V → Option (V × Bool)
  | [.rows (.agg [.int .i64, .int .i64, .agg [.barr 16, .int .i64, .barr 16, .int .i64], .int .i64, .int .i64, .int .i64]) l, .agg [.barr 16 s, .int .i64 sp, .barr 16 d, .int .i64 dp]] => some (.ownv 42 (.rows evSh (thFl l s sp d dp)), decide (l.length ≤ 1000))
  | _ => none
theorem EvOf_con : ∀ vs v, cEvOf vs = some (v, true) → SpecV Tryd.prog 22 vs v := by
  intro vs v h; unfold cEvOf at h; split at h
  · rename_i l s sp d dp
    injection h with h; injection h with h hb; subst h
    exact callV_ok Eevb_ok af_EvOf_ok (EvOf_v _ _ _ _ _ (of_decide_eq_true hb))
  · cases h
noncomputable def af_EvKinds : AF := afOf Tryd.prog Tryd.f50 []
theorem af_EvKinds_ok : AllOk Tryd.prog 50 af_EvKinds := .flat Tryd.func50 (by kernel_rfl) (by kernel_rfl) (by kernel_rfl) (by kernel_rfl) (by kernel_rfl)
noncomputable def af_EvCount : AF := afOf Tryd.prog Tryd.f24 []
theorem af_EvCount_ok : AllOk Tryd.prog 24 af_EvCount := .flat Tryd.func24 (by kernel_rfl) (by kernel_rfl) (by kernel_rfl) (by kernel_rfl) (by kernel_rfl)
noncomputable def af_EvLast : AF := afOf Tryd.prog Tryd.f23 []
theorem af_EvLast_ok : AllOk Tryd.prog 23 af_EvLast := .flat Tryd.func23 (by kernel_rfl) (by kernel_rfl) (by kernel_rfl) (by kernel_rfl) (by kernel_rfl)
noncomputable def GEevc : List (Nat × Con) := []
theorem GEevc_ok : GOk Tryd.prog GEevc := .nil
noncomputable def IEevc : List (Nat × AF) := [(48, af_EvThK), (63, af_EvKi1), (50, af_EvKinds)]
theorem IEevc_ok : IOk Tryd.prog IEevc := .cons af_EvThK_ok <| .cons af_EvKi1_ok <| .cons af_EvKinds_ok <| .nil
noncomputable def CEevc : List (Nat × (List Nat × (S → Option (Bool × Tr)))) := []
theorem CEevc_ok : COk Tryd.prog CEevc := .nil
noncomputable def XEevc : List (Nat × (List Sh × (List V → PT))) := []
theorem XEevc_ok : XOk Tryd.prog XEevc := .nil
noncomputable def Eevc : Env := ⟨Tryd.prog, GEevc, IEevc, CEevc, XEevc⟩
theorem Eevc_ok : EnvOk Eevc := ⟨by kernel_rfl, GEevc_ok, IEevc_ok, CEevc_ok, XEevc_ok⟩
def thKA (l : List V) (k : Int) : Prop := thA 63 (.int .i64) l (.int .i64 k) 0 = thSt 63 (.int .i64) ⟨l, .int .i64 k, 0, []⟩ ∧ thJ thKJ ⟨l, .int .i64 k, 0, []⟩
theorem thKA_ok {l : List V} (k : Int) (h : l.length ≤ 1000) : okG (thKA l k) = true := okG_t ⟨rfl, Int.le_refl _, by dsimp only; omega, h, Int.le_refl _, ⟨_, rfl⟩⟩
def thKO (l : List V) (k : Int) : List V := [] ++ thE (thKP (.int .i64 k)) (l.drop 0)
theorem thKO_eq (l : List V) (k : Int) : thKO l k = thE (thKP (.int .i64 k)) l := rfl
theorem EvCount_u (l : List V) (k : Int) : callV Eevc af_EvCount [.rows evSh l, .int .i64 k] = bif okG (thKA l k) then (bif (thKO l k).isEmpty then some (.int .i64 0) else some (.int .i64 (thKO l k).length)) else none := by kernel_rfl
theorem EvCount_v (l : List V) (k : Int) (h : l.length ≤ 1000) : callV Eevc af_EvCount [.rows evSh l, .int .i64 k] = some (.int .i64 (thE (thKP (.int .i64 k)) l).length) := by
  rw [EvCount_u, thKA_ok k h, thKO_eq]
  cases thE (thKP (.int .i64 k)) l <;> rfl
def cEvCount : List V → Option (V × Bool)
  | [.rows (.agg [.int .i64, .int .i64, .agg [.barr 16, .int .i64, .barr 16, .int .i64], .int .i64, .int .i64, .int .i64]) l, .int .i64 k] => some (.int .i64 (thKl l k).length, decide (l.length ≤ 1000))
  | _ => none
theorem EvCount_con : ∀ vs v, cEvCount vs = some (v, true) → SpecV Tryd.prog 24 vs v := by
  intro vs v h; unfold cEvCount at h; split at h
  · rename_i l k
    injection h with h; injection h with h hb; subst h
    exact callV_ok Eevc_ok af_EvCount_ok (EvCount_v _ _ (of_decide_eq_true hb))
  · cases h
theorem EvLast_u (l : List V) (k : Int) : callV Eevc af_EvLast [.rows evSh l, .int .i64 k] = bif okG (thKA l k) then (bif (thKO l k).isEmpty then some (.tup [evZ, .bool false]) else bif (((thKO l k).length : Int) == 0) then some (.tup [evZ, .bool false]) else bif andT true (inB (IntKind.i64.wrap ((thKO l k).length - 1)) (thKO l k).length) then some (.tup [evE ((thKO l k).getD (IntKind.i64.wrap ((thKO l k).length - 1)).toNat .undef), .bool true]) else none) else none := by kernel_rfl
/-- the last one -/
def thLa (l : List V) (k : Int) : V := (thE (thKP (.int .i64 k)) l).getLastD evZ
theorem EvLast_v (l : List V) (k : Int) (h : l.length ≤ 1000) : callV Eevc af_EvLast [.rows evSh l, .int .i64 k] = some (.tup [evE (thLa l k), .bool (!(thE (thKP (.int .i64 k)) l).isEmpty)]) := by
  rw [EvLast_u, thKA_ok k h, thKO_eq]
  have hlen : (thE (thKP (.int .i64 k)) l).length ≤ l.length := by unfold thE; rw [List.length_map]; exact List.length_filter_le ..
  unfold thLa
  cases hm : thE (thKP (.int .i64 k)) l with
  | nil => rfl
  | cons y m =>
    rw [hm] at hlen
    simp only [List.length_cons] at hlen
    have e1 : (((y :: m).length : Int) == 0) = false := by simp; omega
    have e2 : IntKind.i64.wrap (((y :: m).length : Int) - 1) = ((m.length : Nat) : Int) := by
      simp only [List.length_cons]
      rw [w64 (by omega) (by omega)]
      omega
    have e3 : (y :: m).getD m.length .undef = (y :: m).getLastD evZ := by
      rw [List.getLastD_cons, List.getD_eq_getElem?_getD, List.getElem?_eq_getElem (by simp)]
      cases m with
      | nil => rfl
      | cons z m => simp [List.getLastD_eq_getLast?, List.getLast?_eq_getElem?]
    rw [e1, e2, Int.toNat_natCast, e3, inB_t (by omega) (by simp; omega)]
    rfl
def cEvLast : List V → Option (V × Bool)
  | [.rows (.agg [.int .i64, .int .i64, .agg [.barr 16, .int .i64, .barr 16, .int .i64], .int .i64, .int .i64, .int .i64]) l, .int .i64 k] => some (.tup [evE (thLa l k), .bool (!(thKl l k).isEmpty)], decide (l.length ≤ 1000))
  | _ => none
theorem EvLast_con : ∀ vs v, cEvLast vs = some (v, true) → SpecV Tryd.prog 23 vs v := by
  intro vs v h; unfold cEvLast at h; split at h
  · rename_i l k
    injection h with h; injection h with h hb; subst h
    exact callV_ok Eevc_ok af_EvLast_ok (EvLast_v _ _ (of_decide_eq_true hb))
  · cases h
end Go.Proofs.YtpoeinajedbfoaaDoor
