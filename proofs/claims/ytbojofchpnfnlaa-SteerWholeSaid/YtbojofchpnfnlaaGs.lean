/- Part Gs of the proof: laws used by the law of this claim. -/
import Derived.Defers
import Derived.Recover
import Derived.Test.YtbojofchpnfnlaaGh
import Derived.Test.YtbojofchpnfnlaaGr
import Derived.Test.YtbojofchpnfnlaaGw
set_option linter.all false
namespace Go.Proofs.Ytbojofchpnfnlaa
open Go Go.Am Go.RowKit Go.Mix Go.Bas
set_option maxRecDepth 100000
/-! ### Nearer -/
def nrE (b : List UInt8) : Int := if gE b = 0 then (if gHp b < 2 then 13 else 0) else gE b
def nrB (b : List UInt8) : List UInt8 := if nrE b = 0 then hdX (gC b) (gLa b) (gLn b) (gNx b) (gHp b - 1) (gS b) (gD b) ++ b.drop 40 else []
theorem gHp_bd (b : List UInt8) : 0 ≤ gHp b ∧ gHp b ≤ 255 := by
  have h1 := gt_lo b 7
  have h2 := gt_hi b 7
  unfold gHp gz
  split <;> omega
theorem gE_40 {b : List UInt8} (h : gE b = 0) : 40 ≤ b.length := by
  unfold gE at h
  split at h
  · cases h
  · omega
theorem sxNer_v (b : List UInt8) (h : b.length ≤ 140737488352000) : callV Esmh af_sxNer [.bytes b] = some (.tup [.ownv 5 (.bytes (nrB b)), .int .i64 (nrE b)]) := by
  rw [sxNer_t]
  have hh := gHp_bd b
  unfold nrB nrE
  by_cases h0 : gE b = 0
  · have h40 := gE_40 h0
    rw [if_pos h0, w64 (x := gHp b - 1) (by omega) (by omega), cutL_all]
    have hx := hdX_len (gC b) (gLa b) (gLn b) (gNx b) (gHp b - 1) (gS b) (gD b)
    have hl : (hdX (gC b) (gLa b) (gLn b) (gNx b) (gHp b - 1) (gS b) (gD b) ++ b.drop 40).length ≤ 140737488355328 := by rw [List.length_append, List.length_drop]; omega
    by_cases h1 : gHp b < 2
    · rw [if_pos h1]
      simp (disch := omega) only [dec_t, dec_f, inB_t, inC_t, andT_t, cond_true, cond_false, Bool.and_true, Bool.true_and, w64, wu32, wu8, nble_t, nblt_t, Bool.not_true, Bool.not_false, Bool.not_not, ieq_t, ieq_f, ine_t, ine_f, true_and, and_true, andT_l]
      rfl
    · rw [if_neg h1]
      simp (disch := omega) only [dec_t, dec_f, inB_t, inC_t, andT_t, cond_true, cond_false, Bool.and_true, Bool.true_and, w64, wu32, wu8, nble_t, nblt_t, Bool.not_true, Bool.not_false, Bool.not_not, ieq_t, ieq_f, ine_t, ine_f, true_and, and_true, andT_l]
      rfl
  · rw [if_neg h0, if_neg h0]
    simp (disch := omega) only [dec_t, dec_f, inB_t, inC_t, andT_t, cond_true, cond_false, Bool.and_true, Bool.true_and, w64, wu32, wu8, nble_t, nblt_t, Bool.not_true, Bool.not_false, Bool.not_not, ieq_t, ieq_f, ine_t, ine_f, true_and, and_true, andT_l]
theorem rSxNer_v (b : List UInt8) (h : b.length ≤ 140737488352000) : callV Esmh af_rSxNer [.bytes b] = some (.tup [.ownv 5 (.bytes (nrB b)), .int .i64 (nrE b)]) := by
  rw [rSxNer_t]
  have hh := gHp_bd b
  unfold nrB nrE
  by_cases h0 : gE b = 0
  · have h40 := gE_40 h0
    rw [if_pos h0, w64 (x := gHp b - 1) (by omega) (by omega), cutL_all]
    have hx := hdX_len (gC b) (gLa b) (gLn b) (gNx b) (gHp b - 1) (gS b) (gD b)
    have hl : (hdX (gC b) (gLa b) (gLn b) (gNx b) (gHp b - 1) (gS b) (gD b) ++ b.drop 40).length ≤ 140737488355328 := by rw [List.length_append, List.length_drop]; omega
    by_cases h1 : gHp b < 2
    · rw [if_pos h1]
      simp (disch := omega) only [dec_t, dec_f, inB_t, inC_t, andT_t, cond_true, cond_false, Bool.and_true, Bool.true_and, w64, wu32, wu8, nble_t, nblt_t, Bool.not_true, Bool.not_false, Bool.not_not, ieq_t, ieq_f, ine_t, ine_f, true_and, and_true, andT_l]
      rfl
    · rw [if_neg h1]
      simp (disch := omega) only [dec_t, dec_f, inB_t, inC_t, andT_t, cond_true, cond_false, Bool.and_true, Bool.true_and, w64, wu32, wu8, nble_t, nblt_t, Bool.not_true, Bool.not_false, Bool.not_not, ieq_t, ieq_f, ine_t, ine_f, true_and, and_true, andT_l]
      rfl
  · rw [if_neg h0, if_neg h0]
    simp (disch := omega) only [dec_t, dec_f, inB_t, inC_t, andT_t, cond_true, cond_false, Bool.and_true, Bool.true_and, w64, wu32, wu8, nble_t, nblt_t, Bool.not_true, Bool.not_false, Bool.not_not, ieq_t, ieq_f, ine_t, ine_f, true_and, and_true, andT_l]
def cSxNer : List V → Option (V × Bool)
  | [.bytes b] => some (.tup [.ownv 5 (.bytes (nrB b)), .int .i64 (nrE b)], decide (b.length ≤ 140737488352000))
  | _ => none
theorem sxNer_con : ∀ vs v, cSxNer vs = some (v, true) → SpecV Try.prog 103 vs v := by
  intro vs v h; unfold cSxNer at h; split at h
  · rename_i b
    injection h with h; injection h with h hb; subst h
    exact callV_ok Esmh_ok af_sxNer_ok (sxNer_v b (of_decide_eq_true hb))
  · cases h
theorem rSxNer_con : ∀ vs v, cSxNer vs = some (v, true) → SpecV Try.prog 43 vs v := by
  intro vs v h; unfold cSxNer at h; split at h
  · rename_i b
    injection h with h; injection h with h hb; subst h
    exact callV_ok Esmh_ok af_rSxNer_ok (rSxNer_v b (of_decide_eq_true hb))
  · cases h
/-! ### giving up -/
def pnc (e : Int) : List PanicEntry := [{ v := .iface 29 (.int .i64 e), recovered := false }]
noncomputable def af_dtMust : AF := afOf Try.prog Try.f138 []
theorem af_dtMust_ok : AllOk Try.prog 138 af_dtMust := .flat Try.func138 (by kernel_rfl) (by kernel_rfl) (by kernel_rfl) (by kernel_rfl) (by kernel_rfl)
noncomputable def af_dtSo : AF := afOf Try.prog Try.f133 []
theorem af_dtSo_ok : AllOk Try.prog 133 af_dtSo := .flat Try.func133 (by kernel_rfl) (by kernel_rfl) (by kernel_rfl) (by kernel_rfl) (by kernel_rfl)
noncomputable def GEdt0 : List (Nat × Con) := []
theorem GEdt0_ok : GOk Try.prog GEdt0 := .nil
noncomputable def IEdt0 : List (Nat × AF) := []
theorem IEdt0_ok : IOk Try.prog IEdt0 := .nil
noncomputable def CEdt0 : List (Nat × (List Nat × (S → Option S))) := []
theorem CEdt0_ok : COk Try.prog CEdt0 := .nil
noncomputable def XEdt0 : List (Nat × (List Sh × (List V → PT))) := []
theorem XEdt0_ok : XOk Try.prog XEdt0 := .nil
noncomputable def Edt0 : Env := ⟨Try.prog, GEdt0, IEdt0, CEdt0, XEdt0⟩
theorem Edt0_ok : EnvOk Edt0 := ⟨by kernel_rfl, GEdt0_ok, IEdt0_ok, CEdt0_ok, XEdt0_ok⟩
theorem dtMust_t (e : Int) : callV Edt0 af_dtMust [.int .i64 e] =
 bif e != (0 : Int) then none else some (V.tup []) := by kernel_rfl

theorem dtSo_t (ok : Bool) (e : Int) : callV Edt0 af_dtSo [.bool ok, .int .i64 e] =
 bif !ok then none else some (V.tup []) := by kernel_rfl

theorem dtMust_n (e : Int) (he : e ≠ 0) : SpecN Try.prog 138 [.int .i64 e] (pnc e) := by
  intro O w cs hO hv
  obtain ⟨c, rfl, hc⟩ := hv.one_inv
  obtain ⟨rfl, _⟩ := hc.int_inv
  show Calls Try.prog 138 #[.int .i64 e] w _
  go_enter Try.func138, Try.ntmps138
  go_wp2
  exact ⟨rfl, Below.refl _ _, rfl⟩
theorem dtSo_n (e : Int) : SpecN Try.prog 133 [.bool false, .int .i64 e] (pnc e) := by
  intro O w cs hO hv
  obtain ⟨c, d, rfl, hc, hd⟩ := hv.two_inv
  cases hc.bool_inv
  obtain ⟨rfl, _⟩ := hd.int_inv
  show Calls Try.prog 133 #[.bool false, .int .i64 e] w _
  go_enter Try.func133, Try.ntmps133
  go_wp2
  exact ⟨rfl, Below.refl _ _, rfl⟩
noncomputable def cDtMust : List V → PT
  | [.int .i64 e] => .br (e == 0) (.val (.tup [])) (.pan (pnc e))
  | _ => .no
noncomputable def cDtSo : List V → PT
  | [.bool ok, .int .i64 e] => .br ok (.val (.tup [])) (.pan (pnc e))
  | _ => .no
theorem dtMust_pcon : ∀ vs r, PTo (cDtMust vs) r → SpecP Try.prog 138 vs r := by
  intro vs r h; unfold cDtMust at h; split at h
  · rename_i e
    cases he : (e == 0) with
    | true =>
      rw [he] at h
      cases h with
      | t h =>
        cases h
        have he := eq_of_beq he
        subst he
        exact callV_ok Edt0_ok af_dtMust_ok (by rw [dtMust_t]; rfl)
    | false =>
      rw [he] at h
      cases h with
      | f h => cases h; exact dtMust_n e (by simpa using he)
  · cases h
theorem dtSo_pcon : ∀ vs r, PTo (cDtSo vs) r → SpecP Try.prog 133 vs r := by
  intro vs r h; unfold cDtSo at h; split at h
  · rename_i ok e
    cases ok with
    | true =>
      cases h with
      | t h => cases h; exact callV_ok Edt0_ok af_dtSo_ok (by rw [dtSo_t]; rfl)
    | false =>
      cases h with
      | f h => cases h; exact dtSo_n e
  · cases h
/-! ### joined -/
def cCat : List V → Option (V × Bool)
  | [.rows (.bytes) l] => some (.ownv 5 (.bytes (jnB l)), decide ((jnB l).length ≤ 140737488355328))
  | _ => none
theorem Cat_con : ∀ vs v, cCat vs = some (v, true) → SpecV Try.prog 171 vs v := by
  intro vs v h; unfold cCat at h; split at h
  · rename_i l
    injection h with h; injection h with h hb; subst h
    have hb := of_decide_eq_true hb
    intro O w cs hO hv
    obtain ⟨a, rfl, ha⟩ := hv.one_inv
    cases ha with
    | one h ha =>
      cases h with
      | rows hn hc hm he hr hd =>
        obtain ⟨r1, r2⟩ := reps_bss he hr
        have hB : Bss w _ _ _ (l.map toL) := ⟨by rw [List.length_map]; exact hn, hc, hm, fun hne => by
          obtain ⟨b, off, hA, _, hlt, hce⟩ := hd (by intro e; rw [e] at hne; exact hne rfl)
          refine ⟨b, off, hA, hlt, fun j hj => ?_⟩
          obtain ⟨A', n', c', e, hB⟩ := r2 j hj
          exact ⟨A', n', c', hce j _ e, hB⟩⟩
        rw [jnB_flat] at hb ⊢
        exact kOwn (Concat_calls _ _ _ _ _ hB hb)
    | agg h ha => cases ha
  · cases h
noncomputable def af_dtJoin : AF := afOf Try.prog Try.f139 []
theorem af_dtJoin_ok : AllOk Try.prog 139 af_dtJoin := .flat Try.func139 (by kernel_rfl) (by kernel_rfl) (by kernel_rfl) (by kernel_rfl) (by kernel_rfl)
noncomputable def GEdtj : List (Nat × Con) := [(171, .val [.rows (.bytes)] cCat), (131, .app 5 aSxPut)]
theorem GEdtj_ok : GOk Try.prog GEdtj := .cons (enters_of Try.func171 (by kernel_rfl) rfl) Cat_con <| .consA (enters_of Try.func131 (by kernel_rfl) rfl) sxPut_app <| .nil
noncomputable def IEdtj : List (Nat × AF) := []
theorem IEdtj_ok : IOk Try.prog IEdtj := .nil
noncomputable def CEdtj : List (Nat × (List Nat × (S → Option S))) := []
theorem CEdtj_ok : COk Try.prog CEdtj := .nil
noncomputable def XEdtj : List (Nat × (List Sh × (List V → PT))) := []
theorem XEdtj_ok : XOk Try.prog XEdtj := .nil
noncomputable def Edtj : Env := ⟨Try.prog, GEdtj, IEdtj, CEdtj, XEdtj⟩
theorem Edtj_ok : EnvOk Edtj := ⟨by kernel_rfl, GEdtj_ok, IEdtj_ok, CEdtj_ok, XEdtj_ok⟩
theorem dtJoin_t (c la ln nx hp : Int) (s d : List UInt8) (l : List V) : callV Edtj af_dtJoin [.agg [.int .i64 c, .int .i64 la, .int .i64 ln, .int .i64 nx, .int .i64 hp, .barr 16 s, .barr 16 d], .rows .bytes l] =
 bif andT true (decide ((jnB l).length ≤ (140737488355328 : Nat))) then
 bif
 andT (andT true ((hdX c la (↑(jnB l).length : Int) nx hp s d).length.ble (140737488355328 : Nat)))
 (((hdX c la (↑(jnB l).length : Int) nx hp s d ++ jnB l).length * (1 : Nat)).ble (140737488355328 : Nat)) then
 some (V.ownv (5 : Nat) (V.bytes (hdX c la (↑(jnB l).length : Int) nx hp s d ++ jnB l)))
 else none
 else none := by kernel_rfl

/-! ### addresses cloned -/
noncomputable def af_dtCln : AF := afOf Try.prog Try.f135 []
theorem af_dtCln_ok : AllOk Try.prog 135 af_dtCln := .flat Try.func135 (by kernel_rfl) (by kernel_rfl) (by kernel_rfl) (by kernel_rfl) (by kernel_rfl)
theorem dtCln_t (l : List V) : callV Edt0 af_dtCln [.rows (.barr 16) l] =
 bif andT true (Nat.blt (0 : Nat) l.length) then
 bif
 andT true
 (((List.replicate (0 : Nat) (V.barr (16 : Nat) (List.replicate (16 : Nat) (0 : UInt8))) ++ l).length *
 (16 : Nat)).ble
 (140737488355328 : Nat)) then
 some
 (V.ownv (39 : Nat)
 (V.rows (Sh.barr (16 : Nat))
 (List.replicate (0 : Nat) (V.barr (16 : Nat) (List.replicate (16 : Nat) (0 : UInt8))) ++ l)))
 else none
 else none := by kernel_rfl

theorem dtCln_e (A : Option Addr) (c : Nat) (w : World) (hc : c ≤ 9223372036854775807) : Calls Try.prog 135 #[.slice A 0 c] w fun e w' => ∃ A' c', e = .returned (.slice A' 0 c') ∧ w'.ownsRow w.heap.size 39 16 (.slice A' 0 c') 0 [] ∧ Below w.heap.size w w' := by
  have heq : ∀ w', (binOp .eql 47 (.slice A 0 c) (.slice none 0 0)).run Try.prog w' = .ok (.bool A.isNone) w' := fun w' => by
    rw [bin_sl .eql (.inl rfl)]
    simp [run_eq_sl Try.underlying47 A 0 c]
  cases A with
  | none =>
    simp only [Option.isNone] at heq
    go_enter Try.func135, Try.ntmps135
    go_wp2
    go_ret
    exact ⟨_, _, rfl, World.ownsRow_nil _ _ _ _, Below.refl _ _⟩
  | some a =>
    simp only [Option.isNone] at heq
    go_enter Try.func135, Try.ntmps135
    go_wp2
    go_ret
    exact ⟨_, _, rfl, World.ownsRow_made (e := 39) (size := 16) w #[] 0 (Nat.le_refl _) (by unfold maxLen; omega) rfl, (Below.refl _ _).alloc (Nat.le_refl _) _⟩
def cDtCln : List V → Option (V × Bool)
  | [.rows (.barr 16) l] => some (.ownv 39 (.rows (.barr 16) l), decide (l.length * 16 ≤ 140737488355328))
  | _ => none
theorem dtCln_con : ∀ vs v, cDtCln vs = some (v, true) → SpecV Try.prog 135 vs v := by
  intro vs v h; unfold cDtCln at h; split at h
  · rename_i l
    injection h with h; injection h with h hb; subst h
    have hb := of_decide_eq_true hb
    cases l with
    | nil =>
      intro O w cs hO hv
      obtain ⟨a, rfl, ha⟩ := hv.one_inv
      cases ha with
      | agg _ ha => cases ha
      | one h _ =>
        cases h with
        | rows hn hc hm he hr hd =>
          rename_i A n c ds
          have hn : n = 0 := hn
          subst hn
          refine (dtCln_e A c w hm).mono ?_
          rintro e w' ⟨A', c', rfl, ho, hbl⟩
          exact ⟨hbl, _, rfl, .own (v := .rows (.barr 16) []) (ds := []) (.rows (l := []) (by simp) .nil) ho⟩
    | cons x r =>
      refine callV_ok Edt0_ok af_dtCln_ok ?_
      rw [dtCln_t]
      have h0 : 0 < (x :: r).length := by simp
      have hl : (List.replicate 0 (V.barr 16 (List.replicate 16 (0 : UInt8))) ++ x :: r).length * 16 ≤ 140737488355328 := hb
      simp (disch := omega) only [dec_t, dec_f, inB_t, inC_t, andT_t, cond_true, cond_false, Bool.and_true, Bool.true_and, w64, wu32, wu8, nble_t, nblt_t, Bool.not_true, Bool.not_false, Bool.not_not, ieq_t, ieq_f, ine_t, ine_f, true_and, and_true, andT_l]
      rfl
  · cases h
def cDtJoin : List V → Option (V × Bool)
  | [.agg [.int .i64 c, .int .i64 la, .int .i64 ln, .int .i64 nx, .int .i64 hp, .barr 16 s, .barr 16 d], .rows (.bytes) l] => some (.ownv 5 (.bytes (hdX c la (jnB l).length nx hp s d ++ jnB l)), decide ((jnB l).length ≤ 140737488355000))
  | _ => none
theorem dtJoin_v (c la ln nx hp : Int) (s d : List UInt8) (l : List V) (h : (jnB l).length ≤ 140737488355000) : callV Edtj af_dtJoin [.agg [.int .i64 c, .int .i64 la, .int .i64 ln, .int .i64 nx, .int .i64 hp, .barr 16 s, .barr 16 d], .rows .bytes l] = some (.ownv 5 (.bytes (hdX c la (jnB l).length nx hp s d ++ jnB l))) := by
  rw [dtJoin_t]
  have hx := hdX_len c la (jnB l).length nx hp s d
  have hl : (hdX c la (jnB l).length nx hp s d ++ jnB l).length ≤ 140737488355328 := by rw [List.length_append]; omega
  simp (disch := omega) only [dec_t, dec_f, inB_t, inC_t, andT_t, cond_true, cond_false, Bool.and_true, Bool.true_and, w64, wu32, wu8, nble_t, nblt_t, Bool.not_true, Bool.not_false, Bool.not_not, ieq_t, ieq_f, ine_t, ine_f, true_and, and_true, andT_l]
theorem dtJoin_con : ∀ vs v, cDtJoin vs = some (v, true) → SpecV Try.prog 139 vs v := by
  intro vs v h; unfold cDtJoin at h; split at h
  · rename_i c la ln nx hp s d l
    injection h with h; injection h with h hb; subst h
    exact callV_ok Edtj_ok af_dtJoin_ok (dtJoin_v c la ln nx hp s d l (of_decide_eq_true hb))
  · cases h
/-! ### addresses reversed in place -/
def revB (l : List V) (i j : Int) : List V := l.take i.toNat ++ (((l.drop i.toNat).take (j + 1 - i).toNat).reverse ++ l.drop (j + 1).toNat)
def isB16 (l : List V) : Bool := l.all fun v => match v with | .barr n _ => Nat.beq n 16 | _ => false
def rvS (T : TypeId) (l : List V) (i j : Int) : S := ⟨[(0, .own 0 l.length (.barr 16)), (2, .int .i64 i), (3, .int .i64 j)], [(0, some (.row T (.barr 16) (.rows (.barr 16) l)))], 1, true, 28⟩
def rvX (T : TypeId) (l : List V) : S := ⟨[(0, .own 0 l.length (.barr 16))], [(0, some (.row T (.barr 16) (.rows (.barr 16) l)))], 1, true, 28⟩
def rvG : S → Option (Bool × Tr) := gOf 28 1 fun sl hp => match sl 0, sl 2, sl 3, hp 0 with
  | some (.own 0 n (.barr 16)), some (.int .i64 i), some (.int .i64 j), some (.row T (.barr 16) (.rows (.barr 16) l)) => some (decide (n = l.length ∧ 0 ≤ i ∧ i ≤ j + 1 ∧ j < n ∧ n ≤ 4611686018427387904) && isB16 l, .leaf (.exit 0) (rvX T (revB l i j)))
  | _, _, _, _ => none
noncomputable def af_dtRev : AF := afOf Try.prog Try.f136 [.sum [0, 2, 3] [0] rvG]
noncomputable def rvC : AC := (af_dtRev.ac.sums.headD (.skip, [], [], fun _ => none)).1
theorem rv_b (T : TypeId) (l : List V) (i j : Int) : aev Edt0 (inlN Edt0 6) rvC (bodyF (Am.ways [0, 2, 3] [0] [0]) [0]) (rvS T l i j) =
 bif decide (i < j) then
 bif andT (andT (andT (andT true (inB j l.length)) (inB i l.length)) (inB i l.length)) (inB j l.length) && true then
 some
 (Ex.normal,
 { sl := [((0 : Nat), V.own (0 : Nat) l.length (Sh.barr (16 : Nat))), ((2 : Nat), V.int IntKind.i64 (IntKind.i64.wrap (i + (1 : Int)))), ((3 : Nat), V.int IntKind.i64 (IntKind.i64.wrap (j - (1 : Int))))], hp := [((0 : Nat), some (Blk.row T (Sh.barr (16 : Nat)) (V.rows (Sh.barr (16 : Nat)) ((l.set i.toNat (V.barr (16 : Nat) (toA (l.getD j.toNat V.undef)))).set j.toNat (V.barr (16 : Nat) (toA (l.getD i.toNat V.undef)))))))], nx := (1 : Nat), ob := true, n := (28 : Nat) })
 else none
 else
 some
 (Ex.exit (0 : Nat),
 { sl := [((0 : Nat), V.own (0 : Nat) l.length (Sh.barr (16 : Nat)))], hp := [((0 : Nat), some (Blk.row T (Sh.barr (16 : Nat)) (V.rows (Sh.barr (16 : Nat)) l)))], nx := (1 : Nat), ob := true, n := (28 : Nat) }) := by kernel_rfl

def revN (l : List V) (i k : Nat) : List V := l.take i ++ (((l.drop i).take k).reverse ++ l.drop (i + k))
theorem revN_parts (A R B : List V) : revN (A ++ (R ++ B)) A.length R.length = A ++ (R.reverse ++ B) := by
  unfold revN
  have e : List.drop (A.length + R.length) (A ++ (R ++ B)) = B := by rw [← List.append_assoc, ← List.length_append, List.drop_left]
  rw [List.take_left, List.drop_left, List.take_left, e]
theorem split5 {l : List V} {i j : Nat} (h : i < j) (hj : j < l.length) (d : V) : l = l.take i ++ (l.getD i d :: ((l.drop (i + 1)).take (j - i - 1) ++ (l.getD j d :: l.drop (j + 1)))) := by
  have e1 : l.drop i = l.getD i d :: l.drop (i + 1) := drop_next (by omega)
  have e2 : l.drop j = l.getD j d :: l.drop (j + 1) := drop_next hj
  have e3 : (l.drop (i + 1)).drop (j - i - 1) = l.drop j := by rw [List.drop_drop]; congr 1; omega
  rw [← e2, ← e3, List.take_append_drop, ← e1, List.take_append_drop]
theorem rev_step {l : List V} {i j : Nat} (h : i < j) (hj : j < l.length) {x y : V} (hx : x = l.getD i .undef) (hy : y = l.getD j .undef) :
    revN ((l.set i y).set j x) (i + 1) (j - i - 1) = revN l i (j + 1 - i) := by
  have hs := split5 h hj V.undef
  rw [← hx, ← hy] at hs
  generalize hA : l.take i = A at hs
  generalize hM : (l.drop (i + 1)).take (j - i - 1) = M at hs
  generalize hB : l.drop (j + 1) = B at hs
  have lA : A.length = i := by rw [← hA, List.length_take]; omega
  have lM : M.length = j - i - 1 := by rw [← hM, List.length_take, List.length_drop]; omega
  rw [hs]
  have s1 : (A ++ (x :: (M ++ (y :: B)))).set i y = A ++ (y :: (M ++ (y :: B))) := by
    rw [List.set_append_right _ _ (by omega), lA, Nat.sub_self]; rfl
  have s2 : (A ++ (y :: (M ++ (y :: B)))).set j x = A ++ (y :: (M ++ (x :: B))) := by
    rw [List.set_append_right _ _ (by omega), lA]
    obtain ⟨k, hk⟩ : ∃ k, j - i = k + 1 := ⟨j - i - 1, by omega⟩
    rw [hk, List.set_cons_succ, List.set_append_right _ _ (by omega), show k - M.length = 0 by omega]
    rfl
  rw [s1, s2]
  have p1 := revN_parts (A ++ [y]) M (x :: B)
  have p2 := revN_parts A (x :: (M ++ [y])) B
  rw [show (A ++ [y]).length = i + 1 by rw [List.length_append, lA]; rfl, lM] at p1
  rw [lA, show (x :: (M ++ [y])).length = j + 1 - i by rw [List.length_cons, List.length_append, lM]; simp; omega] at p2
  have q1 : A ++ [y] ++ (M ++ x :: B) = A ++ (y :: (M ++ (x :: B))) := by simp
  have q2 : A ++ (x :: (M ++ [y]) ++ B) = A ++ (x :: (M ++ (y :: B))) := by simp
  rw [q1] at p1
  rw [q2] at p2
  rw [p1, p2]
  simp
theorem revB_N {l : List V} {i j : Int} (h0 : 0 ≤ i) (h1 : i ≤ j + 1) : revB l i j = revN l i.toNat (j + 1 - i).toNat := by
  unfold revB revN
  rw [show i.toNat + (j + 1 - i).toNat = (j + 1).toNat by omega]
theorem revN_small {l : List V} {i k : Nat} (hk : k ≤ 1) : revN l i k = l := by
  unfold revN
  have e : ((l.drop i).take k).reverse = (l.drop i).take k := by
    have hl : ((l.drop i).take k).length ≤ 1 := by rw [List.length_take]; omega
    match (l.drop i).take k, hl with
    | [], _ => rfl
    | [x], _ => rfl
  rw [e, ← List.drop_drop, List.take_append_drop, List.take_append_drop]
theorem isB16_get {l : List V} {i : Nat} (h : isB16 l = true) (hi : i < l.length) : V.barr 16 (toA (l.getD i .undef)) = l.getD i .undef := by
  have hm : l.getD i .undef ∈ l := by
    rw [List.getD_eq_getElem?_getD, List.getElem?_eq_getElem hi]
    exact List.getElem_mem hi
  have := (List.all_eq_true.1 h) _ hm
  cases hv : l.getD i .undef with
  | barr n x => rw [hv] at this; rw [Nat.eq_of_beq_eq_true this]; rfl
  | _ => rw [hv] at this; cases this
theorem isB16_set {l : List V} {i : Nat} {x : List UInt8} (h : isB16 l = true) : isB16 (l.set i (.barr 16 x)) = true := by
  unfold isB16 at *
  rw [List.all_eq_true] at *
  intro v hv
  rcases List.mem_or_eq_of_mem_set hv with hv | hv
  · exact h v hv
  · subst hv; rfl
structure RvX where
  (T : TypeId)
  (l : List V)
  (i j : Int)
theorem rv_loop : LoopOk Try.prog rvC.erase [0] rvG := by
  refine loopF_ok Edt0_ok (d := 6) (AC.flat_ok (by kernel_rfl)) (Am.ways [0, 2, 3] [0] [0]) [0] rvG (X := RvX) (fun x => rvS x.T x.l x.i x.j) (fun x => .leaf (.exit 0) (rvX x.T (revB x.l x.i x.j))) (fun x => (0 ≤ x.i ∧ x.i ≤ x.j + 1 ∧ x.j < x.l.length ∧ x.l.length ≤ 4611686018427387904) ∧ isB16 x.l = true) (fun x => (x.j + 1 - x.i).toNat) ?_ ?_
  · intro s t h
    obtain ⟨h1, h2, h3, h⟩ := gOf_spec h
    split at h
    · rename_i n i j T l q1 q2 q3 q4
      injection h with h; injection h with hc ht
      obtain ⟨hc, hb⟩ := (Bool.and_eq_true _ _).mp hc
      obtain ⟨c1, c2, c3, c4, c5⟩ := of_decide_eq_true hc
      subst c1
      exact ⟨⟨T, l, i, j⟩, .one h1 h2 (by simp [q1, q2, q3]) (by simp [q4]), ⟨⟨c2, c3, c4, c5⟩, hb⟩, ht.symm⟩
    · cases h
  · rintro ⟨T, l, i, j⟩ ⟨⟨h0, h1, h2, hM⟩, hB⟩
    simp only at h0 h1 h2 hM hB ⊢
    rw [rv_b]
    by_cases hlt : i < j
    · have hi : i.toNat < l.length := by omega
      have hj : j.toNat < l.length := by omega
      have hll : ((l.set i.toNat (V.barr 16 (toA (l.getD j.toNat V.undef)))).set j.toNat (V.barr 16 (toA (l.getD i.toNat V.undef)))).length = l.length := by rw [List.length_set, List.length_set]
      refine .inl ⟨⟨T, (l.set i.toNat (V.barr 16 (toA (l.getD j.toNat V.undef)))).set j.toNat (V.barr 16 (toA (l.getD i.toNat V.undef))), i + 1, j - 1⟩, ?_, ⟨⟨by dsimp only; omega, by dsimp only; omega, by dsimp only; rw [hll]; omega, by dsimp only; rw [hll]; exact hM⟩, isB16_set (isB16_set hB)⟩, by dsimp only; omega, leaf_eq ?_⟩
      · rw [w64 (x := i + 1) (by omega) (by omega), w64 (x := j - 1) (by omega) (by omega)]
        unfold rvS
        simp only [hll]
        simp (disch := omega) only [dec_t, dec_f, inB_t, inC_t, andT_t, cond_true, cond_false, Bool.and_true, Bool.true_and, w64, wu32, wu8, nble_t, nblt_t, Bool.not_true, Bool.not_false, Bool.not_not, ieq_t, ieq_f, ine_t, ine_f, true_and, and_true, andT_l]
      · dsimp only
        rw [revB_N (by omega) (by omega), revB_N h0 h1, isB16_get hB hj, isB16_get hB hi, show (i + 1).toNat = i.toNat + 1 by omega, show (j - 1 + 1 - (i + 1)).toNat = j.toNat - i.toNat - 1 by omega, show (j + 1 - i).toNat = j.toNat + 1 - i.toNat by omega,
          rev_step (by omega) hj rfl rfl]
    · refine .inr ⟨.exit 0, rvX T l, ?_, nofun, ?_⟩
      · simp (disch := omega) only [dec_t, dec_f, inB_t, inC_t, andT_t, cond_true, cond_false, Bool.and_true, Bool.true_and, w64, wu32, wu8, nble_t, nblt_t, Bool.not_true, Bool.not_false, Bool.not_not, ieq_t, ieq_f, ine_t, ine_f, true_and, and_true, andT_l]
        rfl
      · rw [revB_N h0 h1, revN_small (by omega)]
        exact .leaf
theorem af_dtRev_ok : AllOk Try.prog 136 af_dtRev := .sums Try.func136 (by kernel_rfl) (by kernel_rfl) (by kernel_rfl) (by kernel_rfl) (sums_one (c := rvC) (ts := [0, 2, 3]) (by kernel_rfl) (by kernel_rfl) rv_loop)
theorem revB_all (l : List V) : revB l 0 ((l.length : Int) - 1) = l.reverse := by
  unfold revB
  rw [show ((l.length : Int) - 1 + 1 - 0).toNat = l.length by omega, show ((l.length : Int) - 1 + 1).toNat = l.length by omega]
  simp
end Go.Proofs.Ytbojofchpnfnlaa

namespace Go.Proofs.Ytbojofchpnfnlaa
open Go Go.Am Go.RowKit Go.Mix Go.Bas
set_option maxRecDepth 100000
noncomputable def af_dtHead : AF := afOf Try.prog Try.f132 []
theorem af_dtHead_ok : AllOk Try.prog 132 af_dtHead := .flat Try.func132 (by kernel_rfl) (by kernel_rfl) (by kernel_rfl) (by kernel_rfl) (by kernel_rfl)
noncomputable def GEdtb : List (Nat × Con) := [(147, .val [.bytes] cSxGet)]
theorem GEdtb_ok : GOk Try.prog GEdtb := .cons (enters_of Try.func147 (by kernel_rfl) rfl) sxGet_con <| .nil
noncomputable def IEdtb : List (Nat × AF) := []
theorem IEdtb_ok : IOk Try.prog IEdtb := .nil
noncomputable def CEdtb : List (Nat × (List Nat × (S → Option S))) := []
theorem CEdtb_ok : COk Try.prog CEdtb := .nil
noncomputable def XEdtb : List (Nat × (List Sh × (List V → PT))) := [(138, ([.int .i64], cDtMust)), (133, ([.bool, .int .i64], cDtSo))]
theorem XEdtb_ok : XOk Try.prog XEdtb := .cons (enters_of Try.func138 (by kernel_rfl) rfl) dtMust_pcon <| .cons (enters_of Try.func133 (by kernel_rfl) rfl) dtSo_pcon <| .nil
noncomputable def Edtb : Env := ⟨Try.prog, GEdtb, IEdtb, CEdtb, XEdtb⟩
theorem Edtb_ok : EnvOk Edtb := ⟨by kernel_rfl, GEdtb_ok, IEdtb_ok, CEdtb_ok, XEdtb_ok⟩
theorem dtHead_t (b : List UInt8) : callP Edtb af_dtHead [.bytes b] =
 bif gE b == (0 : Int) then
 bif gLn b == IntKind.i64.wrap ((↑b.length : Int) - (40 : Int)) then
 some
 (Sum.inl
 (V.agg
 [V.int IntKind.i64 (gC b), V.int IntKind.i64 (gLa b), V.int IntKind.i64 (gLn b), V.int IntKind.i64 (gNx b),
 V.int IntKind.i64 (gHp b), V.barr (16 : Nat) (gS b), V.barr (16 : Nat) (gD b)]))
 else some (Sum.inr [{ v := Value.iface (29 : Nat) (Value.int IntKind.i64 (5 : Int)), recovered := false }])
 else some (Sum.inr [{ v := Value.iface (29 : Nat) (Value.int IntKind.i64 (gE b)), recovered := false }]) := by kernel_rfl

theorem pto_br {c : Bool} {x y : PT} {r : V ⊕ List PanicEntry} (h : PTo (.br c x y) r) : (c = true ∧ PTo x r) ∨ (c = false ∧ PTo y r) := by
  cases h with
  | t h => exact .inl ⟨rfl, h⟩
  | f h => exact .inr ⟨rfl, h⟩
theorem pto_val {v : V} {r : V ⊕ List PanicEntry} (h : PTo (.val v) r) : r = .inl v := by cases h; rfl
theorem pto_pan {ch : List PanicEntry} {r : V ⊕ List PanicEntry} (h : PTo (.pan ch) r) : r = .inr ch := by cases h; rfl
theorem pto_no {r : V ⊕ List PanicEntry} (h : PTo .no r) : False := by cases h
/-- why a packet is none -/
def hdE (b : List UInt8) : Int := if gE b = 0 then (if gLn b = (b.length : Int) - 40 then 0 else 5) else gE b
theorem hdE_zero {b : List UInt8} (h : hdE b = 0) : gE b = 0 ∧ gLn b = (b.length : Int) - 40 := by
  unfold hdE at h
  split at h
  · rename_i h1
    split at h
    · rename_i h2; exact ⟨h1, h2⟩
    · cases h
  · rename_i h1; exact absurd h h1
noncomputable def cDtHead : List V → PT
  | [.bytes b] => .br (decide (b.length ≤ 140737488352000)) (.br (hdE b == 0) (.val (.agg [.int .i64 (gC b), .int .i64 (gLa b), .int .i64 (gLn b), .int .i64 (gNx b), .int .i64 (gHp b), .barr 16 (gS b), .barr 16 (gD b)])) (.pan (pnc (hdE b)))) .no
  | _ => .no
theorem dtHead_p (b : List UInt8) {r : V ⊕ List PanicEntry} (h : PTo (.br (decide (b.length ≤ 140737488352000)) (.br (hdE b == 0) (.val (.agg [.int .i64 (gC b), .int .i64 (gLa b), .int .i64 (gLn b), .int .i64 (gNx b), .int .i64 (gHp b), .barr 16 (gS b), .barr 16 (gD b)])) (.pan (pnc (hdE b)))) .no) r) : callP Edtb af_dtHead [.bytes b] = some r := by
  rcases pto_br h with ⟨hl, h⟩ | ⟨_, h⟩
  · have hl := of_decide_eq_true hl
    rw [dtHead_t, w64 (by omega) (by omega)]
    rcases pto_br h with ⟨h0, h⟩ | ⟨h0, h⟩
    · obtain ⟨h1, h2⟩ := hdE_zero (eq_of_beq h0)
      rw [pto_val h]
      simp (disch := omega) only [dec_t, dec_f, inB_t, inC_t, andT_t, cond_true, cond_false, Bool.and_true, Bool.true_and, w64, wu32, wu8, nble_t, nblt_t, Bool.not_true, Bool.not_false, Bool.not_not, ieq_t, ieq_f, ine_t, ine_f, true_and, and_true, andT_l]
    · rw [pto_pan h]
      have h0 : hdE b ≠ 0 := by simpa using h0
      unfold hdE at h0 ⊢
      by_cases h1 : gE b = 0
      · rw [if_pos h1] at h0 ⊢
        by_cases h2 : gLn b = (b.length : Int) - 40
        · rw [if_pos h2] at h0; exact absurd rfl h0
        · rw [if_neg h2]
          simp (disch := omega) only [dec_t, dec_f, inB_t, inC_t, andT_t, cond_true, cond_false, Bool.and_true, Bool.true_and, w64, wu32, wu8, nble_t, nblt_t, Bool.not_true, Bool.not_false, Bool.not_not, ieq_t, ieq_f, ine_t, ine_f, true_and, and_true, andT_l]
          rfl
      · rw [if_neg h1]
        simp (disch := omega) only [dec_t, dec_f, inB_t, inC_t, andT_t, cond_true, cond_false, Bool.and_true, Bool.true_and, w64, wu32, wu8, nble_t, nblt_t, Bool.not_true, Bool.not_false, Bool.not_not, ieq_t, ieq_f, ine_t, ine_f, true_and, and_true, andT_l]
        rfl
  · exact (pto_no h).elim
theorem dtHead_pcon : ∀ vs r, PTo (cDtHead vs) r → SpecP Try.prog 132 vs r := by
  intro vs r h; unfold cDtHead at h; split at h
  · rename_i b
    exact callP_ok Edtb_ok af_dtHead_ok (dtHead_p b h)
  · cases h
/-! ### the routing header behind it -/
def sN (t : List UInt8) : Int := zI (shE t) (gt t 0)
def sL (t : List UInt8) : Int := zI (shE t) (gt t 3)
def sF (t : List UInt8) : Int := zI (shE t) (gt t 5)
def sT (t : List UInt8) : Int := zI (shE t) (gt t 6 * 256 + gt t 7)
def sS (t : List UInt8) : List V := zV (shE t) (sgL t (shN t))
def sP (t : List UInt8) : List V := zV (shE t) (paV (parse (shT t)))
def sZ (t : List UInt8) : Int := zI (shE t) (shL t)
def cSrhPar2 : List V → Option (V × Bool)
  | [.bytes b] => some (.tup [.agg [.int .i64 (sN b), .int .i64 (sL b), .int .i64 (sF b), .int .i64 (sT b), .rows (.barr 16) (sS b), .rows (.agg [.int .i64, .bytes]) (sP b)], .int .i64 (sZ b), .int .i64 (shE b)], decide (b.length ≤ 140737488355328))
  | _ => none
theorem srhPar2_con : ∀ vs v, cSrhPar2 vs = some (v, true) → SpecV Try.prog 143 vs v := by
  intro vs v h
  unfold cSrhPar2 at h
  split at h
  · exact srhParse_con _ _ h
  · cases h
noncomputable def af_dtRout : AF := afOf Try.prog Try.f93 []
theorem af_dtRout_ok : AllOk Try.prog 93 af_dtRout := .flat Try.func93 (by kernel_rfl) (by kernel_rfl) (by kernel_rfl) (by kernel_rfl) (by kernel_rfl)
noncomputable def GEdtr : List (Nat × Con) := [(143, .val [.bytes] cSrhPar2)]
theorem GEdtr_ok : GOk Try.prog GEdtr := .cons (enters_of Try.func143 (by kernel_rfl) rfl) srhPar2_con <| .nil
noncomputable def IEdtr : List (Nat × AF) := []
theorem IEdtr_ok : IOk Try.prog IEdtr := .nil
noncomputable def CEdtr : List (Nat × (List Nat × (S → Option S))) := []
theorem CEdtr_ok : COk Try.prog CEdtr := .nil
noncomputable def XEdtr : List (Nat × (List Sh × (List V → PT))) := [(138, ([.int .i64], cDtMust)), (133, ([.bool, .int .i64], cDtSo)), (132, ([.bytes], cDtHead))]
theorem XEdtr_ok : XOk Try.prog XEdtr := .cons (enters_of Try.func138 (by kernel_rfl) rfl) dtMust_pcon <| .cons (enters_of Try.func133 (by kernel_rfl) rfl) dtSo_pcon <| .cons (enters_of Try.func132 (by kernel_rfl) rfl) dtHead_pcon <| .nil
noncomputable def Edtr : Env := ⟨Try.prog, GEdtr, IEdtr, CEdtr, XEdtr⟩
theorem Edtr_ok : EnvOk Edtr := ⟨by kernel_rfl, GEdtr_ok, IEdtr_ok, CEdtr_ok, XEdtr_ok⟩
/-- why a packet has no routing header -/
def rtE (b : List UInt8) : Int := if hdE b = 0 then (if gNx b = 43 then shE (b.drop 40) else 7) else hdE b
theorem dtRout_t (b : List UInt8) : callP Edtr af_dtRout [.bytes b] =
 bif decide (b.length ≤ (140737488352000 : Nat)) then
 bif hdE b == (0 : Int) then
 bif gNx b == (43 : Int) then
 bif
 andT (andT true (Am.inC (40 : Int) b.length))
 (decide ((cutL b (40 : Nat) b.length).length ≤ (140737488355328 : Nat))) then
 bif shE (cutL b (40 : Nat) b.length) == (0 : Int) then
 some
 (Sum.inl
 (V.tup
 [V.agg
 [V.int IntKind.i64 (gC b), V.int IntKind.i64 (gLa b), V.int IntKind.i64 (gLn b),
 V.int IntKind.i64 (gNx b), V.int IntKind.i64 (gHp b), V.barr (16 : Nat) (gS b),
 V.barr (16 : Nat) (gD b)],
 V.agg
 [V.int IntKind.i64 (sN (cutL b (40 : Nat) b.length)),
 V.int IntKind.i64 (sL (cutL b (40 : Nat) b.length)),
 V.int IntKind.i64 (sF (cutL b (40 : Nat) b.length)),
 V.int IntKind.i64 (sT (cutL b (40 : Nat) b.length)),
 V.rows (Sh.barr (16 : Nat)) (sS (cutL b (40 : Nat) b.length)),
 V.rows (Sh.agg [Sh.int IntKind.i64, Sh.bytes]) (sP (cutL b (40 : Nat) b.length))],
 V.int IntKind.i64 (sZ (cutL b (40 : Nat) b.length))]))
 else
 some
 (Sum.inr
 [{ v := Value.iface (29 : Nat) (Value.int IntKind.i64 (shE (cutL b (40 : Nat) b.length))), recovered := false }])
 else none
 else some (Sum.inr [{ v := Value.iface (29 : Nat) (Value.int IntKind.i64 (7 : Int)), recovered := false }])
 else some (Sum.inr [{ v := Value.iface (29 : Nat) (Value.int IntKind.i64 (hdE b)), recovered := false }])
 else none := by kernel_rfl

theorem rtE_zero {b : List UInt8} (h : rtE b = 0) : hdE b = 0 ∧ gNx b = 43 ∧ shE (b.drop 40) = 0 := by
  unfold rtE at h
  split at h
  · rename_i h1
    split at h
    · rename_i h2; exact ⟨h1, h2, h⟩
    · cases h
  · rename_i h1; exact absurd h h1
noncomputable def cDtRout : List V → PT
  | [.bytes b] => .br (decide (b.length ≤ 140737488352000)) (.br (rtE b == 0) (.val (.tup [.agg [.int .i64 (gC b), .int .i64 (gLa b), .int .i64 (gLn b), .int .i64 (gNx b), .int .i64 (gHp b), .barr 16 (gS b), .barr 16 (gD b)], .agg [.int .i64 (sN (b.drop 40)), .int .i64 (sL (b.drop 40)), .int .i64 (sF (b.drop 40)), .int .i64 (sT (b.drop 40)), .rows (.barr 16) (sS (b.drop 40)), .rows (.agg [.int .i64, .bytes]) (sP (b.drop 40))], .int .i64 (sZ (b.drop 40))])) (.pan (pnc (rtE b)))) .no
  | _ => .no
theorem dtRout_p (b : List UInt8) {r : V ⊕ List PanicEntry} (h : PTo (cDtRout [.bytes b]) r) : callP Edtr af_dtRout [.bytes b] = some r := by
  unfold cDtRout at h
  rcases pto_br h with ⟨hl, h⟩ | ⟨_, h⟩
  · have hl := of_decide_eq_true hl
    rw [dtRout_t]
    have h40 : hdE b = 0 → 40 ≤ b.length := fun h => gE_40 (hdE_zero h).1
    rcases pto_br h with ⟨h0, h⟩ | ⟨h0, h⟩
    · obtain ⟨h1, h2, h3⟩ := rtE_zero (eq_of_beq h0)
      have h40 := h40 h1
      have hd : (b.drop 40).length ≤ b.length := by rw [List.length_drop]; omega
      rw [pto_val h, cutL_all]
      simp (disch := omega) only [dec_t, dec_f, inB_t, inC_t, andT_t, cond_true, cond_false, Bool.and_true, Bool.true_and, w64, wu32, wu8, nble_t, nblt_t, Bool.not_true, Bool.not_false, Bool.not_not, ieq_t, ieq_f, ine_t, ine_f, true_and, and_true, andT_l]
    · rw [pto_pan h]
      have h0 : rtE b ≠ 0 := by simpa using h0
      unfold rtE at h0 ⊢
      by_cases h1 : hdE b = 0
      · have h40 := h40 h1
        rw [if_pos h1] at h0 ⊢
        have hd : (b.drop 40).length ≤ b.length := by rw [List.length_drop]; omega
        rw [cutL_all]
        by_cases h2 : gNx b = 43
        · rw [if_pos h2] at h0 ⊢
          simp (disch := omega) only [dec_t, dec_f, inB_t, inC_t, andT_t, cond_true, cond_false, Bool.and_true, Bool.true_and, w64, wu32, wu8, nble_t, nblt_t, Bool.not_true, Bool.not_false, Bool.not_not, ieq_t, ieq_f, ine_t, ine_f, true_and, and_true, andT_l]
          rfl
        · rw [if_neg h2]
          simp (disch := omega) only [dec_t, dec_f, inB_t, inC_t, andT_t, cond_true, cond_false, Bool.and_true, Bool.true_and, w64, wu32, wu8, nble_t, nblt_t, Bool.not_true, Bool.not_false, Bool.not_not, ieq_t, ieq_f, ine_t, ine_f, true_and, and_true, andT_l]
          rfl
      · rw [if_neg h1]
        simp (disch := omega) only [dec_t, dec_f, inB_t, inC_t, andT_t, cond_true, cond_false, Bool.and_true, Bool.true_and, w64, wu32, wu8, nble_t, nblt_t, Bool.not_true, Bool.not_false, Bool.not_not, ieq_t, ieq_f, ine_t, ine_f, true_and, and_true, andT_l]
        rfl
  · exact (pto_no h).elim
theorem dtRout_pcon : ∀ vs r, PTo (cDtRout vs) r → SpecP Try.prog 93 vs r := by
  intro vs r h; unfold cDtRout at h; split at h
  · rename_i b
    exact callP_ok Edtr_ok af_dtRout_ok (dtRout_p b h)
  · cases h
end Go.Proofs.Ytbojofchpnfnlaa

namespace Go.Proofs.Ytbojofchpnfnlaa
open Go Go.Am Go.RowKit Go.Mix Go.Bas
set_option maxRecDepth 100000
noncomputable def af_dtRem : AF := afOf Try.prog Try.f91 []
theorem af_dtRem_ok : AllOk Try.prog 91 af_dtRem := .flat Try.func91 (by kernel_rfl) (by kernel_rfl) (by kernel_rfl) (by kernel_rfl) (by kernel_rfl)
noncomputable def GEdtc : List (Nat × Con) := [(139, .val [.agg [.int .i64, .int .i64, .int .i64, .int .i64, .int .i64, .barr 16, .barr 16], .rows (.bytes)] cDtJoin)]
theorem GEdtc_ok : GOk Try.prog GEdtc := .cons (enters_of Try.func139 (by kernel_rfl) rfl) dtJoin_con <| .nil
noncomputable def IEdtc : List (Nat × AF) := []
theorem IEdtc_ok : IOk Try.prog IEdtc := .nil
noncomputable def CEdtc : List (Nat × (List Nat × (S → Option S))) := []
theorem CEdtc_ok : COk Try.prog CEdtc := .nil
noncomputable def XEdtc : List (Nat × (List Sh × (List V → PT))) := [(93, ([.bytes], cDtRout))]

theorem XEdtc_ok : XOk Try.prog XEdtc := .cons (enters_of Try.func93 (by kernel_rfl) rfl) dtRout_pcon <| .nil

noncomputable def Edtc : Env := ⟨Try.prog, GEdtc, IEdtc, CEdtc, XEdtc⟩
theorem Edtc_ok : EnvOk Edtc := ⟨by kernel_rfl, GEdtc_ok, IEdtc_ok, CEdtc_ok, XEdtc_ok⟩
theorem dtRem_t (b : List UInt8) : callP Edtc af_dtRem [.bytes b] =
 bif decide (b.length ≤ (140737488352000 : Nat)) then
 bif rtE b == (0 : Int) then
 bif andT true (inB (0 : Int) (sS (List.drop (40 : Nat) b)).length) && true then
 bif
 andT (andT true (Am.inC (IntKind.i64.wrap ((40 : Int) + sZ (List.drop (40 : Nat) b))) b.length))
 (decide
 ((jnB
 (V.bytes
 (cutL b (IntKind.i64.wrap ((40 : Int) + sZ (List.drop (40 : Nat) b))).toNat b.length) ::
 List.replicate (nat_lit 0) (V.bytes []))).length ≤
 (140737488355000 : Nat))) &&
 true then
 some
 (Sum.inl
 (V.ownv (5 : Nat)
 (V.bytes
 (hdX (gC b) (gLa b)
 (↑(jnB
 (V.bytes
 (cutL b (IntKind.i64.wrap ((40 : Int) + sZ (List.drop (40 : Nat) b))).toNat
 b.length) ::
 List.replicate (nat_lit 0) (V.bytes []))).length :
 Int)
 (sN (List.drop (40 : Nat) b)) (gHp b) (gS b)
 (toA ((sS (List.drop (40 : Nat) b)).getD (0 : Nat) V.undef)) ++
 jnB
 (V.bytes (cutL b (IntKind.i64.wrap ((40 : Int) + sZ (List.drop (40 : Nat) b))).toNat b.length) ::
 List.replicate (nat_lit 0) (V.bytes []))))))
 else none
 else none
 else some (Sum.inr [{ v := Value.iface (29 : Nat) (Value.int IntKind.i64 (rtE b)), recovered := false }])
 else none := by kernel_rfl

theorem jnB1 (x : List UInt8) (n : Nat) (y : V) (hn : n = 0) : jnB (V.bytes x :: List.replicate n y) = x := by
  subst hn
  show toL (V.bytes x) ++ jnB [] = x
  exact List.append_nil x
theorem g_bds (b : List UInt8) : (0 ≤ gC b ∧ gC b ≤ 255) ∧ (0 ≤ gLa b ∧ gLa b ≤ 1048575) ∧ (0 ≤ gLn b ∧ gLn b ≤ 65535) ∧ (0 ≤ gNx b ∧ gNx b ≤ 255) ∧ (0 ≤ gHp b ∧ gHp b ≤ 255) := by
  have a0 := gt_lo b 0
  have a1 := gt_lo b 1
  have a2 := gt_lo b 2
  have a3 := gt_lo b 3
  have a4 := gt_lo b 4
  have a5 := gt_lo b 5
  have a6 := gt_lo b 6
  have a7 := gt_lo b 7
  have c0 := gt_hi b 0
  have c1 := gt_hi b 1
  have c2 := gt_hi b 2
  have c3 := gt_hi b 3
  have c4 := gt_hi b 4
  have c5 := gt_hi b 5
  have c6 := gt_hi b 6
  have c7 := gt_hi b 7
  unfold gC gLa gLn gNx gHp gz
  split <;> refine ⟨⟨?_, ?_⟩, ⟨?_, ?_⟩, ⟨?_, ?_⟩, ⟨?_, ?_⟩, ⟨?_, ?_⟩⟩ <;> omega
theorem shE_zero {t : List UInt8} (h : shE t = 0) : 8 ≤ t.length ∧ shL t ≤ t.length ∧ shN t ≤ 10 ∧ gt t 3 < (shN t : Int) ∧ 8 + 16 * shN t ≤ shL t := by
  unfold shE at h
  split at h; · cases h
  split at h; · cases h
  split at h; · cases h
  split at h; · cases h
  split at h; · cases h
  split at h; · cases h
  refine ⟨?_, ?_, ?_, ?_, ?_⟩ <;> omega
structure RtF (b : List UInt8) : Prop where
  h0 : hdE b = 0
  n43 : gNx b = 43
  e0 : shE (b.drop 40) = 0
  lo : 48 ≤ b.length
  hi : b.length ≤ 65575
  ln : gLn b = (b.length : Int) - 40
  z : sZ (b.drop 40) = shL (b.drop 40)
  z8 : 8 ≤ shL (b.drop 40)
  zl : shL (b.drop 40) + 40 ≤ b.length
  s : sS (b.drop 40) = sgL (b.drop 40) (shN (b.drop 40))
  sl : (sS (b.drop 40)).length = shN (b.drop 40)
  n1 : 1 ≤ shN (b.drop 40)
  n10 : shN (b.drop 40) ≤ 10
  l0 : 0 ≤ sL (b.drop 40)
  ll : sL (b.drop 40) < shN (b.drop 40)
  l3 : sL (b.drop 40) = gt b 43
  nn : sN (b.drop 40) = gt b 40
  zs : 8 + 16 * shN (b.drop 40) ≤ shL (b.drop 40)
theorem rtF {b : List UInt8} (h : rtE b = 0) : RtF b := by
  obtain ⟨h1, h2, h3⟩ := rtE_zero h
  obtain ⟨h4, h5⟩ := hdE_zero h1
  have h6 := gE_40 h4
  obtain ⟨k1, k2, k3, k4, k5⟩ := shE_zero h3
  have hb := g_bds b
  have hl : (b.drop 40).length = b.length - 40 := List.length_drop ..
  have hL := shL_hi (b.drop 40)
  have hN := shN_hi (b.drop 40)
  have e1 : sZ (b.drop 40) = shL (b.drop 40) := by unfold sZ zI; rw [if_pos h3]
  have e2 : sS (b.drop 40) = sgL (b.drop 40) (shN (b.drop 40)) := by unfold sS zV; rw [if_pos h3]
  have e3 : sL (b.drop 40) = gt b 43 := by unfold sL zI; rw [if_pos h3, gt_drop]
  have e4 : sN (b.drop 40) = gt b 40 := by unfold sN zI; rw [if_pos h3, gt_drop]
  have e5 : gt (b.drop 40) 3 = gt b 43 := by rw [gt_drop]
  have e6 := gt_lo b 43
  exact ⟨h1, h2, h3, by omega, by omega, h5, e1, hL.1, by omega, e2, by rw [e2, sgL_len], hN.1, k3, by omega, by omega, e3, e4, k5⟩
/-- the packet without its routing header -/
def rmB (b : List UInt8) : List UInt8 := if rtE b = 0 then hdX (gC b) (gLa b) (((b.length : Int) - 40) - sZ (b.drop 40)) (sN (b.drop 40)) (gHp b) (gS b) (toA ((sS (b.drop 40)).getD 0 .undef)) ++ b.drop (40 + sZ (b.drop 40)).toNat else []
noncomputable def cDtRem : List V → PT
  | [.bytes b] => .br (decide (b.length ≤ 140737488352000)) (.br (rtE b == 0) (.val (.ownv 5 (.bytes (rmB b)))) (.pan (pnc (rtE b)))) .no
  | _ => .no
theorem dtRem_p (b : List UInt8) {r : V ⊕ List PanicEntry} (h : PTo (cDtRem [.bytes b]) r) : callP Edtc af_dtRem [.bytes b] = some r := by
  unfold cDtRem at h
  rcases pto_br h with ⟨hl, h⟩ | ⟨_, h⟩
  · have hl := of_decide_eq_true hl
    rw [dtRem_t]
    rcases pto_br h with ⟨h0, h⟩ | ⟨h0, h⟩
    · have h0 := eq_of_beq h0
      have f := rtF h0
      have f1 := f.z
      have f2 := f.z8
      have f3 := f.zl
      have f4 := f.sl
      have f5 := f.n1
      rw [pto_val h, w64 (by omega) (by omega), cutL_all, jnB1 _ _ _ rfl]
      unfold rmB
      have hd : ((b.drop (40 + sZ (b.drop 40)).toNat).length : Int) = (b.length : Int) - 40 - sZ (b.drop 40) := by rw [List.length_drop]; omega
      rw [hd]
      have hd2 : (b.drop (40 + sZ (b.drop 40)).toNat).length ≤ b.length := by rw [List.length_drop]; omega
      rw [if_pos h0]
      simp (disch := omega) only [dec_t, dec_f, inB_t, inC_t, andT_t, cond_true, cond_false, Bool.and_true, Bool.true_and, w64, wu32, wu8, nble_t, nblt_t, Bool.not_true, Bool.not_false, Bool.not_not, ieq_t, ieq_f, ine_t, ine_f, true_and, and_true, andT_l]
    · rw [pto_pan h]
      have h0 : rtE b ≠ 0 := by simpa using h0
      simp (disch := omega) only [dec_t, dec_f, inB_t, inC_t, andT_t, cond_true, cond_false, Bool.and_true, Bool.true_and, w64, wu32, wu8, nble_t, nblt_t, Bool.not_true, Bool.not_false, Bool.not_not, ieq_t, ieq_f, ine_t, ine_f, true_and, and_true, andT_l]
      rfl
  · exact (pto_no h).elim
theorem dtRem_pcon : ∀ vs r, PTo (cDtRem vs) r → SpecP Try.prog 91 vs r := by
  intro vs r h; unfold cDtRem at h; split at h
  · rename_i b
    exact callP_ok Edtc_ok af_dtRem_ok (dtRem_p b h)
  · cases h
theorem gS_16 (b : List UInt8) : (gS b).length = 16 := by
  unfold gS gzb
  split
  · rename_i h
    have := gE_40 h
    rw [length_cutL]; omega
  · simp
theorem gD_16 (b : List UInt8) : (gD b).length = 16 := by
  unfold gD gzb
  split
  · rename_i h
    have := gE_40 h
    rw [length_cutL]; omega
  · simp
end Go.Proofs.Ytbojofchpnfnlaa

namespace Go.Proofs.Ytbojofchpnfnlaa
open Go Go.Am Go.RowKit Go.Mix Go.Bas
set_option maxRecDepth 100000
/-! ### a region that draws its order, where a giving up may be caught -/
theorem wpS_region_draw {P : Program} {id : Nat} {ops : Array Oper} {Q : Exit → Act → List Frame → World → Prop} {a : Act} {cs : List Frame} {w : World}
    (h : ∀ t, wpOpsS P ops Q (Region.schedule (P.follows .mixedOrders) ops t) a cs w.drew) : (Code.region id ops true).wpS P Q a cs w :=
  fun b k hb hr => let ⟨e, a', cs', w', q, r⟩ := wp_opsS _ a cs w.drew (h _) b k hb hr; ⟨e, a', cs', w', q, .of_steps (.one step_region_draw) r⟩
theorem lin_go {ops : Array Oper} {fuel t : Nat} {listed : Array Bool} {acc rs : List Nat} (hr : Region.ready .any ops listed = rs) :
    Region.linearise.go .any ops (fuel + 1) t listed acc = match rs[t % rs.length]? with
      | some i => Region.linearise.go .any ops fuel (t / rs.length) (listed.setIfInBounds i true) (i :: acc)
      | none => acc.reverse := by subst hr; rfl
theorem lin4 {ops : Array Oper} (h4 : ops.size = 4) (r0 : Region.ready .any ops #[false, false, false, false] = [0, 1]) (ra : Region.ready .any ops #[true, false, false, false] = [1]) (rb : Region.ready .any ops #[false, true, false, false] = [0])
    (r2 : Region.ready .any ops #[true, true, false, false] = [2]) (r3 : Region.ready .any ops #[true, true, true, false] = [3]) (t : Nat) :
    Region.schedule true ops t = [0, 1, 2, 3] ∨ Region.schedule true ops t = [1, 0, 2, 3] := by
  unfold Region.schedule Region.linearise
  simp only [Bool.true_or, if_true, h4]
  have e0 : (Array.replicate 4 false) = #[false, false, false, false] := rfl
  rw [e0, lin_go r0]
  rcases Nat.mod_two_eq_zero_or_one t with h | h
  · left
    rw [show [0, 1].length = 2 from rfl, h]
    change Region.linearise.go .any ops 3 (t / 2) #[true, false, false, false] [0] = _
    rw [lin_go ra, show [1].length = 1 from rfl, Nat.mod_one]
    change Region.linearise.go .any ops 2 (t / 2 / 1) #[true, true, false, false] [1, 0] = _
    rw [lin_go r2, show [2].length = 1 from rfl, Nat.mod_one]
    change Region.linearise.go .any ops 1 (t / 2 / 1 / 1) #[true, true, true, false] [2, 1, 0] = _
    rw [lin_go r3, show [3].length = 1 from rfl, Nat.mod_one]
    rfl
  · right
    rw [show [0, 1].length = 2 from rfl, h]
    change Region.linearise.go .any ops 3 (t / 2) #[false, true, false, false] [1] = _
    rw [lin_go rb, show [0].length = 1 from rfl, Nat.mod_one]
    change Region.linearise.go .any ops 2 (t / 2 / 1) #[true, true, false, false] [0, 1] = _
    rw [lin_go r2, show [2].length = 1 from rfl, Nat.mod_one]
    change Region.linearise.go .any ops 1 (t / 2 / 1 / 1) #[true, true, true, false] [2, 0, 1] = _
    rw [lin_go r3, show [3].length = 1 from rfl, Nat.mod_one]
    rfl
theorem caught_nil (e : Int) (w : World) : Calls Try.prog 84 #[.nilIface, .int .i64 e] w fun r w' => r = .returned (.int .i64 e) ∧ w' = w := by
  go_enter Try.func84, Try.ntmps84
  go_wp2
  go_ret
  exact ⟨rfl, rfl⟩
theorem caught_ifc (x e : Int) (w : World) : Calls Try.prog 84 #[.iface 29 (.int .i64 x), .int .i64 e] w fun r w' => r = .returned (.int .i64 x) ∧ w' = w := by
  go_enter Try.func84, Try.ntmps84
  have ht : ∀ w, (Instr.typeAssert (.iface 29 (.int .i64 x)) 20 29 true).run Try.prog w = .ok (.tuple #[.int .i64 x, .bool true]) w := fun w => rfl
  go_wp2
  go_ret
  exact ⟨rfl, rfl⟩
theorem remC_idle (p q : Addr) (w : World) (hq : w.cell? q = some (.int .i64 0)) (hz : w.frozen? q = false) :
    CallsD Try.prog 90 #[.pointer (some q), .pointer (some p)] .returning w fun e u' w' => e = .returned (.tuple #[]) ∧ u' = .returning ∧ w' = (w.setCell q (.int .i64 0)).drew := by
  refine callsD_of_wpS Try.func90 rfl fun c₀ cs hu => ?_
  apply wpS_seq
  refine wpS_region_draw fun t => ?_
  rw [show Try.prog.follows .mixedOrders = true by kernel_rfl]
  rcases lin4 (by kernel_rfl) (by kernel_rfl) (by kernel_rfl) (by kernel_rfl) (by kernel_rfl) (by kernel_rfl) t with h | h
  all_goals
    rw [h]
    clear h
    simp [wpOpsS, go_sem, recoverD, hu, Try.ntmps90, Exit.thenS, hq, hz]
    refine (caught_nil _ _).mono ?_
    rintro e w' ⟨rfl, rfl⟩
    simp [go_sem, hq, hz]
    apply wpS_seq
    apply wpS_region
    simp [wpOpsS, go_sem, Exit.thenS, hq, hz]
    refine wpS_cond (t := false) (by simp [Act.eval, Array.replicate]) ?_
    simp only [Bool.false_eq_true, if_false]
    refine wpS_of_wp (wp_skip ?_)
    cases c₀
    simp_all [bodyPostS, results, Try.results90]
theorem remC_pan (p q : Addr) (x : Int) (hx : x ≠ 0) (w : World) (y : Value) (hq : w.cell? q = some (.int .i64 0)) (hz : w.frozen? q = false) (hp : w.cell? p = some y) (hzp : w.frozen? p = false) (hpq : p.block ≠ q.block) :
    CallsD Try.prog 90 #[.pointer (some q), .pointer (some p)] (.panicking [{ v := .iface 29 (.int .i64 x), recovered := false }]) w fun e u' w' => e = .returned (.tuple #[]) ∧ u' = .panicking [{ v := .iface 29 (.int .i64 x), recovered := true }] ∧ w' = ((w.setCell q (.int .i64 x)).setCell p (.slice none 0 0)).drew := by
  refine callsD_of_wpS Try.func90 rfl fun c₀ cs hu => ?_
  apply wpS_seq
  refine wpS_region_draw fun t => ?_
  rw [show Try.prog.follows .mixedOrders = true by kernel_rfl]
  rcases lin4 (by kernel_rfl) (by kernel_rfl) (by kernel_rfl) (by kernel_rfl) (by kernel_rfl) (by kernel_rfl) t with h | h
  all_goals
    rw [h]
    clear h
    simp [wpOpsS, go_sem, recoverD, hu, Try.ntmps90, Exit.thenS, hq, hz]
    refine (caught_ifc _ _ _).mono ?_
    rintro e w' ⟨rfl, rfl⟩
    simp [go_sem, hq, hz]
    apply wpS_seq
    apply wpS_region
    simp [wpOpsS, go_sem, Exit.thenS, hq, hz]
    refine wpS_cond (t := true) (by simp [Act.eval, Array.replicate, hx]) ?_
    simp only [if_true]
    apply wpS_region
    have hp' : (w.setCell q (.int .i64 x)).cell? p = some y := (World.cell?_of_block (w := w) (Below.heap_setCell w q _ p.block hpq)).trans hp
    have hzp' : (w.setCell q (.int .i64 x)).frozen? p = false := by rw [World.frozen?_setCell]; exact hzp
    simp [wpOpsS, go_sem, hq, hz, hp', hzp', bodyPostS, results, Try.results90]
theorem out_bytes {O : Nat → Prop} {w w' : World} {T : TypeId} {l : List UInt8} {c : Value} (h : OutRep O w w' (.ownv T (.bytes l)) c) : ∃ A n k, c = .slice A n k ∧ Go.Bas.Own w' w.heap.size T A n k l := by
  cases h with
  | val h => cases h with
    | one h _ => cases h
    | agg h _ => cases h
  | own hr ho =>
    cases hr with
    | bytes => exact ⟨_, _, _, rfl, rfl, ho⟩
theorem out_rowInt {O : Nat → Prop} {w w' : World} {T : TypeId} {l : List UInt8} {A : Option Addr} {n k : Nat} {E : Int} {B : Nat} (h : Go.Bas.Own w' B T A n k l) (hB : w.heap.size ≤ B) : OutRep O w w' (.tup [.ownv T (.bytes l), .int .i64 E]) (.tuple #[.slice A n k, .int .i64 E]) := by
  have h2 : Go.Bas.Own w' w.heap.size T A n k l := ⟨h.1, ownsRow_base h.2 hB⟩
  exact .tup (RowC.of_own h2) h2.2 (.cons (.one (.int nofun) rfl) .nil)
def cRem : List V → Option (V × Bool)
  | [.bytes b] => some (.tup [.ownv 5 (.bytes (rmB b)), .int .i64 (rtE b)], decide (b.length ≤ 140737488352000))
  | _ => none
theorem rmB_no {b : List UInt8} (h : rtE b ≠ 0) : rmB b = [] := if_neg h
theorem dtRem2_con : ∀ vs v, cRem vs = some (v, true) → SpecV Try.prog 35 vs v := by
  intro vs v h; unfold cRem at h; split at h
  · rename_i b
    injection h with h; injection h with h hb; subst h
    have hb := of_decide_eq_true hb
    intro O w cs hO hv
    obtain ⟨a, rfl, ha⟩ := hv.one_inv
    show Calls Try.prog 35 #[a] w _
    have hmf : ∀ (fn : Fn) (first cap : Array Value) (w : World), (Instr.makeFunc fn first cap).run Try.prog w = .ok (.func fn first cap) w := fun _ _ _ _ => rfl
    go_enter_defers Try.func35, Try.ntmps35
    go_wp2_with fail
    generalize hW : ((w.alloc (Obj.cells #[Value.slice none 0 0] 24)).alloc (Obj.cells #[Value.int IntKind.i64 0] 29)) = W
    have hbw : Below w.heap.size w W := by rw [← hW]; exact ((Below.refl _ _).alloc (Nat.le_refl _) _).alloc (by simp) _
    have hWs : W.heap.size = w.heap.size + 2 := by rw [← hW]; simp
    have p0 : W.cell? ⟨w.heap.size, 0, none⟩ = some (.slice none 0 0) := by rw [← hW]; simp [go_sem]
    have p1 : W.cell? ⟨w.heap.size + 1, 0, none⟩ = some (.int .i64 0) := by rw [← hW]; simp [go_sem]
    have p2 : W.frozen? ⟨w.heap.size, 0, none⟩ = false := by rw [← hW]; simp [go_sem]
    have p3 : W.frozen? ⟨w.heap.size + 1, 0, none⟩ = false := by rw [← hW]; simp [go_sem]
    clear hW
    have hv2 : VReps no O W [V.bytes b] [a] := hv.ext (Ext.mk (by omega) (fun _ _ e => e) (fun g hg _ => hbw.block g hg) fun g hg => .inl hg)
    have hO2 : ∀ g, O g → g < W.heap.size := fun g hg => by have := hO g hg; omega
    have hbd : decide (b.length ≤ 140737488352000) = true := decide_eq_true hb
    by_cases h0 : rtE b = 0
    · have hs : SpecP Try.prog 91 [V.bytes b] (.inl (.ownv 5 (.bytes (rmB b)))) := dtRem_pcon _ _ (by show PTo (.br (decide _) (.br (rtE b == 0) _ _) _) _; rw [hbd, h0]; exact .t (.t .val))
      refine (hs O W [a] hO2 hv2).mono ?_
      rintro e w3 ⟨hbl, c, rfl, hout⟩
      obtain ⟨A, n, k, rfl, hown⟩ := out_bytes hout
      have q0 : w3.cell? ⟨w.heap.size, 0, none⟩ = some (.slice none 0 0) := by rw [hbl.cell (by simp; omega)]; exact p0
      have q1 : w3.cell? ⟨w.heap.size + 1, 0, none⟩ = some (.int .i64 0) := by rw [hbl.cell (by simp; omega)]; exact p1
      have q2 : w3.frozen? ⟨w.heap.size, 0, none⟩ = false := by rw [hbl.frozen (by simp; omega)]; exact p2
      have q3 : w3.frozen? ⟨w.heap.size + 1, 0, none⟩ = false := by rw [hbl.frozen (by simp; omega)]; exact p3
      go_wp2
      refine leaves_cons (f := 90) (args := #[.pointer (some ⟨w.heap.size + 1, 0, none⟩), .pointer (some ⟨w.heap.size, 0, none⟩)]) (by simp) (by simp [go_sem]) ?_
      refine (remC_idle ⟨w.heap.size, 0, none⟩ ⟨w.heap.size + 1, 0, none⟩ _ (World.cell?_setCell_same' _ _ _ (by simp [go_sem, q1])) (by simp [go_sem, q3])).mono ?_
      rintro e u' w'' ⟨rfl, rfl, rfl⟩
      simp only [Leaves, settle]
      have ho4 : Go.Bas.Own ((((w3.setCell ⟨w.heap.size, 0, none⟩ (.slice A n k)).setCell ⟨w.heap.size + 1, 0, none⟩ (.int .i64 0)).setCell ⟨w.heap.size + 1, 0, none⟩ (.int .i64 0)).drew) W.heap.size 5 A n k (rmB b) := (((hown.far (by show w.heap.size < _; omega) _).far (by show w.heap.size + 1 < _; omega) _).far (by show w.heap.size + 1 < _; omega) _).step (Below.refl _ _).drew
      have hb4 : Below w.heap.size w ((((w3.setCell ⟨w.heap.size, 0, none⟩ (.slice A n k)).setCell ⟨w.heap.size + 1, 0, none⟩ (.int .i64 0)).setCell ⟨w.heap.size + 1, 0, none⟩ (.int .i64 0)).drew) := ((((hbw.trans (hbl.mono (by omega))).setCell (by show w.heap.size ≤ w.heap.size; omega) _).setCell (by show w.heap.size ≤ w.heap.size + 1; omega) _).setCell (by show w.heap.size ≤ w.heap.size + 1; omega) _).drew
      have k3 : ((((w3.setCell ⟨w.heap.size, 0, none⟩ (.slice A n k)).setCell ⟨w.heap.size + 1, 0, none⟩ (.int .i64 0)).setCell ⟨w.heap.size + 1, 0, none⟩ (.int .i64 0))).cell? ⟨w.heap.size + 1, 0, none⟩ = some (.int .i64 0) := World.cell?_setCell_same' _ _ _ (by rw [World.cell?_setCell_same' _ _ _ (by simp [go_sem, q1])]; rfl)
      refine ⟨.tuple #[.slice A n k, .int .i64 0], by simp [results, Try.results35, go_sem, q0, q1, k3], hb4, _, rfl, ?_⟩
      rw [h0]
      exact out_rowInt ho4 (by omega)
    · have hs : SpecP Try.prog 91 [V.bytes b] (.inr (pnc (rtE b))) := dtRem_pcon _ _ (by show PTo (.br (decide _) (.br (rtE b == 0) _ _) _) _; rw [hbd, show (rtE b == 0) = false by simpa using h0]; exact .t (.f .pan))
      refine (hs O W [a] hO2 hv2).mono ?_
      rintro e w3 ⟨hbl, rfl⟩
      have q0 : w3.cell? ⟨w.heap.size, 0, none⟩ = some (.slice none 0 0) := by rw [hbl.cell (by simp; omega)]; exact p0
      have q1 : w3.cell? ⟨w.heap.size + 1, 0, none⟩ = some (.int .i64 0) := by rw [hbl.cell (by simp; omega)]; exact p1
      have q2 : w3.frozen? ⟨w.heap.size, 0, none⟩ = false := by rw [hbl.frozen (by simp; omega)]; exact p2
      have q3 : w3.frozen? ⟨w.heap.size + 1, 0, none⟩ = false := by rw [hbl.frozen (by simp; omega)]; exact p3
      go_wp2
      refine leaves_cons (f := 90) (args := #[.pointer (some ⟨w.heap.size + 1, 0, none⟩), .pointer (some ⟨w.heap.size, 0, none⟩)]) (by simp) (by simp [go_sem]) ?_
      refine (remC_pan ⟨w.heap.size, 0, none⟩ ⟨w.heap.size + 1, 0, none⟩ (rtE b) h0 _ _ q1 q3 q0 q2 (by simp)).mono ?_
      rintro e u' w'' ⟨rfl, rfl, rfl⟩
      show ∃ v, _ ∧ _
      have hb4 : Below w.heap.size w ((w3.setCell ⟨w.heap.size + 1, 0, none⟩ (.int .i64 (rtE b))).setCell ⟨w.heap.size, 0, none⟩ (.slice none 0 0)).drew := (((hbw.trans (hbl.mono (by omega))).setCell (by show w.heap.size ≤ w.heap.size + 1; omega) _).setCell (by show w.heap.size ≤ w.heap.size; omega) _).drew
      refine ⟨.tuple #[.slice none 0 0, .int .i64 (rtE b)], by simp [results, Try.results35, go_sem, q0, q1], hb4, _, rfl, ?_⟩
      rw [rmB_no h0]
      exact out_rowInt (Go.Bas.Own.nil _ _ _) (Nat.le_refl _)
  · cases h
end Go.Proofs.Ytbojofchpnfnlaa

namespace Go.Proofs.Ytbojofchpnfnlaa
open Go Go.Am Go.RowKit Go.Mix Go.Bas
set_option maxRecDepth 100000
end Go.Proofs.Ytbojofchpnfnlaa

namespace Go.Proofs.Ytbojofchpnfnlaa
open Go Go.Am Go.RowKit Go.Mix Go.Bas
set_option maxRecDepth 100000
structure K3 (G : Nat) (w w' : World) : Prop where
  bel : Below G w w'
  oth : ∀ b, b < G ∨ G + 3 ≤ b → w'.heap[b]? = w.heap[b]?
theorem K3.refl (G : Nat) (w : World) : K3 G w w := ⟨Below.refl _ _, fun _ _ => rfl⟩
theorem K3.drew {G : Nat} {w w' : World} (h : K3 G w w') : K3 G w w'.drew := ⟨h.bel.drew, h.oth⟩
theorem K3.set {G : Nat} {w w' : World} (h : K3 G w w') {p : Addr} (hp : G ≤ p.block ∧ p.block < G + 3) (v : Value) : K3 G w (w'.setCell p v) :=
  ⟨h.bel.setCell hp.1 v, fun b hb => (Below.heap_setCell w' p v b (by omega)).trans (h.oth b hb)⟩
theorem K3.sets {G g : Nat} (hg : G ≤ g ∧ g < G + 3) : ∀ (vs : List Value) (o : Nat) {w w' : World}, K3 G w w' → K3 G w (w'.setCells g o vs)
  | [], _, _, _, h => h
  | v :: r, o, w, w', h => by rw [World.setCells]; exact K3.sets hg r (o + 1) (h.set (p := ⟨g, o, none⟩) hg v)
end Go.Proofs.Ytbojofchpnfnlaa

namespace Go.Proofs.Ytbojofchpnfnlaa
open Go Go.Am Go.RowKit Go.Mix Go.Bas
set_option maxRecDepth 100000
noncomputable def af_dtIns : AF := afOf Try.prog Try.f85 []
theorem af_dtIns_ok : AllOk Try.prog 85 af_dtIns := .flat Try.func85 (by kernel_rfl) (by kernel_rfl) (by kernel_rfl) (by kernel_rfl) (by kernel_rfl)
noncomputable def GEdtg : List (Nat × Con) := [(134, .val [.bytes, .int .i64, .int .i64] cWkWalk), (137, .val [.agg [.int .i64, .int .i64, .int .i64, .int .i64, .rows (.barr 16), .rows (.agg [.int .i64, .bytes])]] cSrhPut), (135, .val [.rows (.barr 16)] cDtCln), (139, .val [.agg [.int .i64, .int .i64, .int .i64, .int .i64, .int .i64, .barr 16, .barr 16], .rows (.bytes)] cDtJoin)]
theorem GEdtg_ok : GOk Try.prog GEdtg := .cons (enters_of Try.func134 (by kernel_rfl) rfl) wkWalk_con <| .cons (enters_of Try.func137 (by kernel_rfl) rfl) srhPut_con <| .cons (enters_of Try.func135 (by kernel_rfl) rfl) dtCln_con <| .cons (enters_of Try.func139 (by kernel_rfl) rfl) dtJoin_con <| .nil
noncomputable def IEdtg : List (Nat × AF) := [(136, af_dtRev)]
theorem IEdtg_ok : IOk Try.prog IEdtg := .cons af_dtRev_ok <| .nil
noncomputable def CEdtg : List (Nat × (List Nat × (S → Option S))) := []
theorem CEdtg_ok : COk Try.prog CEdtg := .nil
noncomputable def XEdtg : List (Nat × (List Sh × (List V → PT))) := [(132, ([.bytes], cDtHead)), (138, ([.int .i64], cDtMust)), (133, ([.bool, .int .i64], cDtSo))]
theorem XEdtg_ok : XOk Try.prog XEdtg := .cons (enters_of Try.func132 (by kernel_rfl) rfl) dtHead_pcon <| .cons (enters_of Try.func138 (by kernel_rfl) rfl) dtMust_pcon <| .cons (enters_of Try.func133 (by kernel_rfl) rfl) dtSo_pcon <| .nil
noncomputable def Edtg : Env := ⟨Try.prog, GEdtg, IEdtg, CEdtg, XEdtg⟩
theorem Edtg_ok : EnvOk Edtg := ⟨by kernel_rfl, GEdtg_ok, IEdtg_ok, CEdtg_ok, XEdtg_ok⟩
theorem dtIns_t (b : List UInt8) (s t : List V) : callP Edtg af_dtIns [.bytes b, .rows (.barr 16) s, .rows (.agg [.int .i64, .bytes]) t] =
 bif decide (b.length ≤ (140737488352000 : Nat)) then
 bif hdE b == (0 : Int) then
 bif gNx b != (43 : Int) then
 bif gNx b != (0 : Int) then
 bif decide ((↑s.length : Int) > (0 : Int)) then
 bif decide ((↑s.length : Int) < (10 : Int)) then
 bif andT true (decide (b.length ≤ (140737488355328 : Nat))) then
 bif wkE b (gNx b) (40 : Int) != (0 : Int) then
 bif andT true (decide (s.length * (16 : Nat) ≤ (140737488355328 : Nat))) && true then
 bif
 andT true
 (((s ++
 V.barr (16 : Nat) (gD b) ::
 List.replicate (nat_lit 0)
 (V.barr (16 : Nat) (List.replicate (16 : Nat) (0 : UInt8)))).length *
 (16 : Nat)).ble
 (140737488355328 : Nat)) then
 bif
 decide
 ((s ++
 V.barr (16 : Nat) (gD b) ::
 List.replicate (nat_lit 0)
 (V.barr (16 : Nat) (List.replicate (16 : Nat) (0 : UInt8)))).length =
 (s ++
 V.barr (16 : Nat) (gD b) ::
 List.replicate (nat_lit 0)
 (V.barr (16 : Nat) (List.replicate (16 : Nat) (0 : UInt8)))).length ∧
 (0 : Int) ≤ (0 : Int) ∧
 (0 : Int) ≤
 IntKind.i64.wrap
 ((↑(s ++
 V.barr (16 : Nat) (gD b) ::
 List.replicate (nat_lit 0)
 (V.barr (16 : Nat)
 (List.replicate (16 : Nat) (0 : UInt8)))).length :
 Int) -
 (1 : Int)) +
 (1 : Int) ∧
 IntKind.i64.wrap
 ((↑(s ++
 V.barr (16 : Nat) (gD b) ::
 List.replicate (nat_lit 0)
 (V.barr (16 : Nat)
 (List.replicate (16 : Nat) (0 : UInt8)))).length :
 Int) -
 (1 : Int)) <
 (↑(s ++
 V.barr (16 : Nat) (gD b) ::
 List.replicate (nat_lit 0)
 (V.barr (16 : Nat)
 (List.replicate (16 : Nat) (0 : UInt8)))).length :
 Int) ∧
 (s ++
 V.barr (16 : Nat) (gD b) ::
 List.replicate (nat_lit 0)
 (V.barr (16 : Nat) (List.replicate (16 : Nat) (0 : UInt8)))).length ≤
 (4611686018427387904 : Nat)) &&
 isB16
 (s ++
 V.barr (16 : Nat) (gD b) ::
 List.replicate (nat_lit 0)
 (V.barr (16 : Nat) (List.replicate (16 : Nat) (0 : UInt8)))) then
 bif
 andT true
 (decide (t.length ≤ (4611686018427387904 : Nat)) &&
 okS
 (revB
 (s ++
 V.barr (16 : Nat) (gD b) ::
 List.replicate (nat_lit 0)
 (V.barr (16 : Nat) (List.replicate (16 : Nat) (0 : UInt8))))
 (0 : Int)
 (IntKind.i64.wrap
 ((↑(s ++
 V.barr (16 : Nat) (gD b) ::
 List.replicate (nat_lit 0)
 (V.barr (16 : Nat)
 (List.replicate (16 : Nat) (0 : UInt8)))).length :
 Int) -
 (1 : Int))))) then
 bif
 srC (gNx b) (↑s.length : Int) (0 : Int) (0 : Int)
 (revB
 (s ++
 V.barr (16 : Nat) (gD b) ::
 List.replicate (nat_lit 0)
 (V.barr (16 : Nat) (List.replicate (16 : Nat) (0 : UInt8))))
 (0 : Int)
 (IntKind.i64.wrap
 ((↑(s ++
 V.barr (16 : Nat) (gD b) ::
 List.replicate (nat_lit 0)
 (V.barr (16 : Nat)
 (List.replicate (16 : Nat) (0 : UInt8)))).length :
 Int) -
 (1 : Int))))
 t ==
 (0 : Int) then
 bif
 decide
 (IntKind.i64.wrap
 ((↑b.length : Int) +
 (↑(srP
 { nx := gNx b, lf := (↑s.length : Int), fl := (0 : Int), tg := (0 : Int), s := revB (s ++ V.barr (16 : Nat) (gD b) :: List.replicate (nat_lit 0) (V.barr (16 : Nat) (List.replicate (16 : Nat) (0 : UInt8)))) (0 : Int) (IntKind.i64.wrap ((↑(s ++ V.barr (16 : Nat) (gD b) :: List.replicate (nat_lit 0) (V.barr (16 : Nat) (List.replicate (16 : Nat) (0 : UInt8)))).length : Int) - (1 : Int))), t := t }).length :
 Int)) ≤
 (1500 : Int)) then
 bif andT true (inB (0 : Int) s.length) && true then
 bif
 andT (andT true (Am.inC (40 : Int) b.length))
 (decide
 ((jnB
 (V.bytes
 (srP
 { nx := gNx b, lf := (↑s.length : Int), fl := (0 : Int), tg := (0 : Int), s := revB (s ++ V.barr (16 : Nat) (gD b) :: List.replicate (nat_lit 0) (V.barr (16 : Nat) (List.replicate (16 : Nat) (0 : UInt8)))) (0 : Int) (IntKind.i64.wrap ((↑(s ++ V.barr (16 : Nat) (gD b) :: List.replicate (nat_lit 0) (V.barr (16 : Nat) (List.replicate (16 : Nat) (0 : UInt8)))).length : Int) - (1 : Int))), t := t }) ::
 V.bytes (cutL b (40 : Nat) b.length) ::
 List.replicate (nat_lit 0) (V.bytes []))).length ≤
 (140737488355000 : Nat))) &&
 true then
 some
 (Sum.inl
 (V.ownv (5 : Nat)
 (V.bytes
 (hdX (gC b) (gLa b)
 (↑(jnB
 (V.bytes
 (srP
 { nx := gNx b, lf := (↑s.length : Int), fl := (0 : Int), tg := (0 : Int), s := revB (s ++ V.barr (16 : Nat) (gD b) :: List.replicate (nat_lit 0) (V.barr (16 : Nat) (List.replicate (16 : Nat) (0 : UInt8)))) (0 : Int) (IntKind.i64.wrap ((↑(s ++ V.barr (16 : Nat) (gD b) :: List.replicate (nat_lit 0) (V.barr (16 : Nat) (List.replicate (16 : Nat) (0 : UInt8)))).length : Int) - (1 : Int))), t := t }) ::
 V.bytes (cutL b (40 : Nat) b.length) ::
 List.replicate (nat_lit 0) (V.bytes []))).length :
 Int)
 (43 : Int) (gHp b) (gS b) (toA (s.getD (0 : Nat) V.undef)) ++
 jnB
 (V.bytes
 (srP
 { nx := gNx b, lf := (↑s.length : Int), fl := (0 : Int), tg := (0 : Int), s := revB (s ++ V.barr (16 : Nat) (gD b) :: List.replicate (nat_lit 0) (V.barr (16 : Nat) (List.replicate (16 : Nat) (0 : UInt8)))) (0 : Int) (IntKind.i64.wrap ((↑(s ++ V.barr (16 : Nat) (gD b) :: List.replicate (nat_lit 0) (V.barr (16 : Nat) (List.replicate (16 : Nat) (0 : UInt8)))).length : Int) - (1 : Int))), t := t }) ::
 V.bytes (cutL b (40 : Nat) b.length) ::
 List.replicate (nat_lit 0) (V.bytes []))))))
 else none
 else none
 else
 some
 (Sum.inr
 [{ v := Value.iface (29 : Nat) (Value.int IntKind.i64 (4 : Int)), recovered := false }])
 else
 some
 (Sum.inr
 [{ v := Value.iface (29 : Nat) (Value.int IntKind.i64 (srC (gNx b) (↑s.length : Int) (0 : Int) (0 : Int) (revB (s ++ V.barr (16 : Nat) (gD b) :: List.replicate (nat_lit 0) (V.barr (16 : Nat) (List.replicate (16 : Nat) (0 : UInt8)))) (0 : Int) (IntKind.i64.wrap ((↑(s ++ V.barr (16 : Nat) (gD b) :: List.replicate (nat_lit 0) (V.barr (16 : Nat) (List.replicate (16 : Nat) (0 : UInt8)))).length : Int) - (1 : Int)))) t)), recovered := false }])
 else none
 else none
 else none
 else none
 else
 bif decide ((↑(wkV b (gNx b) (40 : Int)).length : Int) ≤ (8 : Int)) then
 bif andT true (decide (s.length * (16 : Nat) ≤ (140737488355328 : Nat))) && true then
 bif
 andT true
 (((s ++
 V.barr (16 : Nat) (gD b) ::
 List.replicate (nat_lit 0)
 (V.barr (16 : Nat) (List.replicate (16 : Nat) (0 : UInt8)))).length *
 (16 : Nat)).ble
 (140737488355328 : Nat)) then
 bif
 decide
 ((s ++
 V.barr (16 : Nat) (gD b) ::
 List.replicate (nat_lit 0)
 (V.barr (16 : Nat) (List.replicate (16 : Nat) (0 : UInt8)))).length =
 (s ++
 V.barr (16 : Nat) (gD b) ::
 List.replicate (nat_lit 0)
 (V.barr (16 : Nat) (List.replicate (16 : Nat) (0 : UInt8)))).length ∧
 (0 : Int) ≤ (0 : Int) ∧
 (0 : Int) ≤
 IntKind.i64.wrap
 ((↑(s ++
 V.barr (16 : Nat) (gD b) ::
 List.replicate (nat_lit 0)
 (V.barr (16 : Nat)
 (List.replicate (16 : Nat) (0 : UInt8)))).length :
 Int) -
 (1 : Int)) +
 (1 : Int) ∧
 IntKind.i64.wrap
 ((↑(s ++
 V.barr (16 : Nat) (gD b) ::
 List.replicate (nat_lit 0)
 (V.barr (16 : Nat)
 (List.replicate (16 : Nat) (0 : UInt8)))).length :
 Int) -
 (1 : Int)) <
 (↑(s ++
 V.barr (16 : Nat) (gD b) ::
 List.replicate (nat_lit 0)
 (V.barr (16 : Nat)
 (List.replicate (16 : Nat) (0 : UInt8)))).length :
 Int) ∧
 (s ++
 V.barr (16 : Nat) (gD b) ::
 List.replicate (nat_lit 0)
 (V.barr (16 : Nat) (List.replicate (16 : Nat) (0 : UInt8)))).length ≤
 (4611686018427387904 : Nat)) &&
 isB16
 (s ++
 V.barr (16 : Nat) (gD b) ::
 List.replicate (nat_lit 0)
 (V.barr (16 : Nat) (List.replicate (16 : Nat) (0 : UInt8)))) then
 bif
 andT true
 (decide (t.length ≤ (4611686018427387904 : Nat)) &&
 okS
 (revB
 (s ++
 V.barr (16 : Nat) (gD b) ::
 List.replicate (nat_lit 0)
 (V.barr (16 : Nat) (List.replicate (16 : Nat) (0 : UInt8))))
 (0 : Int)
 (IntKind.i64.wrap
 ((↑(s ++
 V.barr (16 : Nat) (gD b) ::
 List.replicate (nat_lit 0)
 (V.barr (16 : Nat)
 (List.replicate (16 : Nat) (0 : UInt8)))).length :
 Int) -
 (1 : Int))))) then
 bif
 srC (gNx b) (↑s.length : Int) (0 : Int) (0 : Int)
 (revB
 (s ++
 V.barr (16 : Nat) (gD b) ::
 List.replicate (nat_lit 0)
 (V.barr (16 : Nat) (List.replicate (16 : Nat) (0 : UInt8))))
 (0 : Int)
 (IntKind.i64.wrap
 ((↑(s ++
 V.barr (16 : Nat) (gD b) ::
 List.replicate (nat_lit 0)
 (V.barr (16 : Nat)
 (List.replicate (16 : Nat) (0 : UInt8)))).length :
 Int) -
 (1 : Int))))
 t ==
 (0 : Int) then
 bif
 decide
 (IntKind.i64.wrap
 ((↑b.length : Int) +
 (↑(srP
 { nx := gNx b, lf := (↑s.length : Int), fl := (0 : Int), tg := (0 : Int), s := revB (s ++ V.barr (16 : Nat) (gD b) :: List.replicate (nat_lit 0) (V.barr (16 : Nat) (List.replicate (16 : Nat) (0 : UInt8)))) (0 : Int) (IntKind.i64.wrap ((↑(s ++ V.barr (16 : Nat) (gD b) :: List.replicate (nat_lit 0) (V.barr (16 : Nat) (List.replicate (16 : Nat) (0 : UInt8)))).length : Int) - (1 : Int))), t := t }).length :
 Int)) ≤
 (1500 : Int)) then
 bif andT true (inB (0 : Int) s.length) && true then
 bif
 andT (andT true (Am.inC (40 : Int) b.length))
 (decide
 ((jnB
 (V.bytes
 (srP
 { nx := gNx b, lf := (↑s.length : Int), fl := (0 : Int), tg := (0 : Int), s := revB (s ++ V.barr (16 : Nat) (gD b) :: List.replicate (nat_lit 0) (V.barr (16 : Nat) (List.replicate (16 : Nat) (0 : UInt8)))) (0 : Int) (IntKind.i64.wrap ((↑(s ++ V.barr (16 : Nat) (gD b) :: List.replicate (nat_lit 0) (V.barr (16 : Nat) (List.replicate (16 : Nat) (0 : UInt8)))).length : Int) - (1 : Int))), t := t }) ::
 V.bytes (cutL b (40 : Nat) b.length) ::
 List.replicate (nat_lit 0) (V.bytes []))).length ≤
 (140737488355000 : Nat))) &&
 true then
 some
 (Sum.inl
 (V.ownv (5 : Nat)
 (V.bytes
 (hdX (gC b) (gLa b)
 (↑(jnB
 (V.bytes
 (srP
 { nx := gNx b, lf := (↑s.length : Int), fl := (0 : Int), tg := (0 : Int), s := revB (s ++ V.barr (16 : Nat) (gD b) :: List.replicate (nat_lit 0) (V.barr (16 : Nat) (List.replicate (16 : Nat) (0 : UInt8)))) (0 : Int) (IntKind.i64.wrap ((↑(s ++ V.barr (16 : Nat) (gD b) :: List.replicate (nat_lit 0) (V.barr (16 : Nat) (List.replicate (16 : Nat) (0 : UInt8)))).length : Int) - (1 : Int))), t := t }) ::
 V.bytes (cutL b (40 : Nat) b.length) ::
 List.replicate (nat_lit 0) (V.bytes []))).length :
 Int)
 (43 : Int) (gHp b) (gS b) (toA (s.getD (0 : Nat) V.undef)) ++
 jnB
 (V.bytes
 (srP
 { nx := gNx b, lf := (↑s.length : Int), fl := (0 : Int), tg := (0 : Int), s := revB (s ++ V.barr (16 : Nat) (gD b) :: List.replicate (nat_lit 0) (V.barr (16 : Nat) (List.replicate (16 : Nat) (0 : UInt8)))) (0 : Int) (IntKind.i64.wrap ((↑(s ++ V.barr (16 : Nat) (gD b) :: List.replicate (nat_lit 0) (V.barr (16 : Nat) (List.replicate (16 : Nat) (0 : UInt8)))).length : Int) - (1 : Int))), t := t }) ::
 V.bytes (cutL b (40 : Nat) b.length) ::
 List.replicate (nat_lit 0) (V.bytes []))))))
 else none
 else none
 else
 some
 (Sum.inr
 [{ v := Value.iface (29 : Nat) (Value.int IntKind.i64 (4 : Int)), recovered := false }])
 else
 some
 (Sum.inr
 [{ v := Value.iface (29 : Nat) (Value.int IntKind.i64 (srC (gNx b) (↑s.length : Int) (0 : Int) (0 : Int) (revB (s ++ V.barr (16 : Nat) (gD b) :: List.replicate (nat_lit 0) (V.barr (16 : Nat) (List.replicate (16 : Nat) (0 : UInt8)))) (0 : Int) (IntKind.i64.wrap ((↑(s ++ V.barr (16 : Nat) (gD b) :: List.replicate (nat_lit 0) (V.barr (16 : Nat) (List.replicate (16 : Nat) (0 : UInt8)))).length : Int) - (1 : Int)))) t)), recovered := false }])
 else none
 else none
 else none
 else none
 else
 some
 (Sum.inr [{ v := Value.iface (29 : Nat) (Value.int IntKind.i64 (8 : Int)), recovered := false }])
 else none
 else some (Sum.inr [{ v := Value.iface (29 : Nat) (Value.int IntKind.i64 (8 : Int)), recovered := false }])
 else some (Sum.inr [{ v := Value.iface (29 : Nat) (Value.int IntKind.i64 (8 : Int)), recovered := false }])
 else some (Sum.inr [{ v := Value.iface (29 : Nat) (Value.int IntKind.i64 (7 : Int)), recovered := false }])
 else some (Sum.inr [{ v := Value.iface (29 : Nat) (Value.int IntKind.i64 (7 : Int)), recovered := false }])
 else some (Sum.inr [{ v := Value.iface (29 : Nat) (Value.int IntKind.i64 (hdE b)), recovered := false }])
 else none := by kernel_rfl

/-- the way of a packet: the last one first -/
def viaR (b : List UInt8) (s : List V) : List V := (s ++ [V.barr 16 (gD b)]).reverse
def inC0 (b : List UInt8) (s t : List V) : Int := srC (gNx b) (s.length : Int) 0 0 (viaR b s) t
def inX (b : List UInt8) (s t : List V) : List UInt8 := srP ⟨gNx b, (s.length : Int), 0, 0, viaR b s, t⟩
/-- why a packet can not go by way of others -/
def inE (b : List UInt8) (s t : List V) : Int :=
  if hdE b ≠ 0 then hdE b else if gNx b = 43 ∨ gNx b = 0 then 7 else if s.length = 0 ∨ 9 < s.length then 8 else
  if wkE b (gNx b) 40 = 0 ∧ 8 < (wkV b (gNx b) 40).length then 8 else if inC0 b s t ≠ 0 then inC0 b s t else if 1500 < b.length + (inX b s t).length then 4 else 0
def inB (b : List UInt8) (s t : List V) : List UInt8 := if inE b s t = 0 then hdX (gC b) (gLa b) ((inX b s t).length + ((b.length : Int) - 40)) 43 (gHp b) (gS b) (toA (s.getD 0 .undef)) ++ (inX b s t ++ b.drop 40) else []
theorem isB16_app {s : List V} {x : List UInt8} (h : isB16 s = true) : isB16 (s ++ [V.barr 16 x]) = true := by
  unfold isB16 at *
  rw [List.all_append, h]
  rfl
theorem okS_app {s : List V} {x : List UInt8} (h : okS s = true) (hx : x.length = 16) : okS (s ++ [V.barr 16 x]).reverse = true := by
  unfold okS at *
  rw [List.all_reverse, List.all_append, h]
  show (true && (Nat.beq x.length 16 && true)) = true
  rw [hx]; rfl
theorem inX_len (b : List UInt8) (s t : List V) : (inX b s t).length ≤ 3000 := by
  unfold inX srP
  split
  · rename_i hz
    obtain ⟨-, h1, h2, -, -⟩ := srC_zero (h := ⟨gNx b, (s.length : Int), 0, 0, viaR b s, t⟩) hz
    have h3 := sgs_len (viaR b s)
    have h4 := putB_len (tls t)
    rw [List.length_append, List.length_append, hdB_len]
    simp only at h1 h2 ⊢
    omega
  · simp
theorem jnB2 (x y : List UInt8) (n : Nat) (z : V) (hn : n = 0) : jnB (V.bytes x :: V.bytes y :: List.replicate n z) = x ++ y := by
  subst hn
  show x ++ (y ++ []) = x ++ y
  rw [List.append_nil]
noncomputable def cDtIns : List V → PT
  | [.bytes b, .rows (.barr 16) s, .rows (.agg [.int .i64, .bytes]) t] => .br (decide (b.length ≤ 140737488352000 ∧ t.length ≤ 4611686018427387904) && (isB16 s && okS s)) (.br (inE b s t == 0) (.val (.ownv 5 (.bytes (inB b s t)))) (.pan (pnc (inE b s t)))) .no
  | _ => .no
theorem dtIns_p (b : List UInt8) (s t : List V) {r : V ⊕ List PanicEntry} (h : PTo (cDtIns [.bytes b, .rows (.barr 16) s, .rows (.agg [.int .i64, .bytes]) t]) r) : callP Edtg af_dtIns [.bytes b, .rows (.barr 16) s, .rows (.agg [.int .i64, .bytes]) t] = some r := by
  unfold cDtIns at h
  rcases pto_br h with ⟨hl, h⟩ | ⟨_, h⟩
  · obtain ⟨hl, hS⟩ := (Bool.and_eq_true _ _).mp hl
    obtain ⟨hl, htl⟩ := of_decide_eq_true hl
    obtain ⟨hb16, hok⟩ := (Bool.and_eq_true _ _).mp hS
    have hr : r = if inE b s t = 0 then .inl (.ownv 5 (.bytes (inB b s t))) else .inr (pnc (inE b s t)) := by
      rcases pto_br h with ⟨h0, h⟩ | ⟨h0, h⟩
      · rw [pto_val h, if_pos (eq_of_beq h0)]
      · rw [pto_pan h, if_neg (by simpa using h0)]
    rw [hr, dtIns_t]
    clear hr h
    have eL : ∀ (x y : V), s ++ x :: List.replicate (nat_lit 0) y = s ++ [x] := fun _ _ => rfl
    have eJ : ∀ (x y : List UInt8) (z : V), jnB (V.bytes x :: V.bytes y :: List.replicate (nat_lit 0) z) = x ++ y := fun x y z => jnB2 x y _ z rfl
    simp only [eL, eJ, cutL_all]
    have hsl : (s ++ [V.barr 16 (gD b)]).length = s.length + 1 := by simp
    simp only [hsl]
    by_cases h0 : hdE b = 0
    · by_cases h1 : gNx b = 43
      · have e : inE b s t = 7 := by unfold inE; rw [if_neg (by simpa using h0), if_pos (.inl h1)]
        rw [e]
        simp (disch := omega) only [dec_t, dec_f, inB_t, inC_t, andT_t, cond_true, cond_false, Bool.and_true, Bool.true_and, w64, wu32, wu8, nble_t, nblt_t, Bool.not_true, Bool.not_false, Bool.not_not, ieq_t, ieq_f, ine_t, ine_f, true_and, and_true, andT_l]
        rfl
      · by_cases h2 : gNx b = 0
        · have e : inE b s t = 7 := by unfold inE; rw [if_neg (by simpa using h0), if_pos (.inr h2)]
          rw [e]
          simp (disch := omega) only [dec_t, dec_f, inB_t, inC_t, andT_t, cond_true, cond_false, Bool.and_true, Bool.true_and, w64, wu32, wu8, nble_t, nblt_t, Bool.not_true, Bool.not_false, Bool.not_not, ieq_t, ieq_f, ine_t, ine_f, true_and, and_true, andT_l]
          rfl
        · by_cases h3 : s.length = 0 ∨ 9 < s.length
          · have e : inE b s t = 8 := by unfold inE; rw [if_neg (by simpa using h0), if_neg (by omega), if_pos h3]
            rw [e]
            rcases h3 with h3 | h3
            · simp (disch := omega) only [dec_t, dec_f, inB_t, inC_t, andT_t, cond_true, cond_false, Bool.and_true, Bool.true_and, w64, wu32, wu8, nble_t, nblt_t, Bool.not_true, Bool.not_false, Bool.not_not, ieq_t, ieq_f, ine_t, ine_f, true_and, and_true, andT_l]
              rfl
            · simp (disch := omega) only [dec_t, dec_f, inB_t, inC_t, andT_t, cond_true, cond_false, Bool.and_true, Bool.true_and, w64, wu32, wu8, nble_t, nblt_t, Bool.not_true, Bool.not_false, Bool.not_not, ieq_t, ieq_f, ine_t, ine_f, true_and, and_true, andT_l]
              rfl
          · have h4 : 0 < s.length := by omega
            have h5 : s.length ≤ 9 := by omega
            have ew : IntKind.i64.wrap (((s.length + 1 : Nat) : Int) - 1) = ((s ++ [V.barr 16 (gD b)]).length : Int) - 1 := by rw [w64 (by omega) (by omega), hsl]
            simp only [ew, revB_all]
            have hB := isB16_app (x := gD b) hb16
            have hO := okS_app (x := gD b) hok (gD_16 b)
            have hX := inX_len b s t
            have hg0 : (b.drop 40).length ≤ b.length := by rw [List.length_drop]; omega
            have h40 := gE_40 (hdE_zero h0).1
            have hO' : okS (viaR b s) = true := hO
            have eV : (s ++ [V.barr 16 (gD b)]).reverse = viaR b s := rfl
            have eC : srC (gNx b) (s.length : Int) 0 0 (viaR b s) t = inC0 b s t := rfl
            have eX : srP ⟨gNx b, (s.length : Int), 0, 0, viaR b s, t⟩ = inX b s t := rfl
            simp only [eV, eC, eX, hB, hO', hsl, Bool.and_true]
            clear eL eJ ew eV eC eX hB hO hO' hb16 hok
            have hxy : (((inX b s t) ++ b.drop 40).length : Int) = (inX b s t).length + ((b.length : Int) - 40) := by rw [List.length_append, List.length_drop]; omega
            have hxl : ((inX b s t) ++ b.drop 40).length ≤ 140737488355000 := by rw [List.length_append]; omega
            rw [hxy]
            by_cases h6 : wkE b (gNx b) 40 = 0
            · by_cases h7 : 8 < (wkV b (gNx b) 40).length
              · have e : inE b s t = 8 := by unfold inE; rw [if_neg (by simpa using h0), if_neg (by omega), if_neg h3, if_pos ⟨h6, h7⟩]
                rw [e]
                simp (disch := omega) only [dec_t, dec_f, inB_t, inC_t, andT_t, cond_true, cond_false, Bool.and_true, Bool.true_and, w64, wu32, wu8, nble_t, nblt_t, Bool.not_true, Bool.not_false, Bool.not_not, ieq_t, ieq_f, ine_t, ine_f, true_and, and_true, andT_l]
                rfl
              · by_cases h8 : inC0 b s t = 0
                · by_cases h9 : 1500 < b.length + (inX b s t).length
                  · have e : inE b s t = 4 := by unfold inE; rw [if_neg (by simpa using h0), if_neg (by omega), if_neg h3, if_neg (fun h => h7 h.2), if_neg (by simpa using h8), if_pos h9]
                    rw [e]
                    simp (disch := omega) only [dec_t, dec_f, inB_t, inC_t, andT_t, cond_true, cond_false, Bool.and_true, Bool.true_and, w64, wu32, wu8, nble_t, nblt_t, Bool.not_true, Bool.not_false, Bool.not_not, ieq_t, ieq_f, ine_t, ine_f, true_and, and_true, andT_l]
                    rfl
                  · have e : inE b s t = 0 := by unfold inE; rw [if_neg (by simpa using h0), if_neg (by omega), if_neg h3, if_neg (fun h => h7 h.2), if_neg (by simpa using h8), if_neg h9]
                    unfold inB
                    rw [e]
                    simp (disch := omega) only [dec_t, dec_f, inB_t, inC_t, andT_t, cond_true, cond_false, Bool.and_true, Bool.true_and, w64, wu32, wu8, nble_t, nblt_t, Bool.not_true, Bool.not_false, Bool.not_not, ieq_t, ieq_f, ine_t, ine_f, true_and, and_true, andT_l]
                    rfl
                · have e : inE b s t = inC0 b s t := by unfold inE; rw [if_neg (by simpa using h0), if_neg (by omega), if_neg h3, if_neg (fun h => h7 h.2), if_pos h8]
                  rw [e, if_neg h8]
                  simp (disch := omega) only [dec_t, dec_f, inB_t, inC_t, andT_t, cond_true, cond_false, Bool.and_true, Bool.true_and, w64, wu32, wu8, nble_t, nblt_t, Bool.not_true, Bool.not_false, Bool.not_not, ieq_t, ieq_f, ine_t, ine_f, true_and, and_true, andT_l]
                  rfl
            · by_cases h8 : inC0 b s t = 0
              · by_cases h9 : 1500 < b.length + (inX b s t).length
                · have e : inE b s t = 4 := by unfold inE; rw [if_neg (by simpa using h0), if_neg (by omega), if_neg h3, if_neg (fun h => h6 h.1), if_neg (by simpa using h8), if_pos h9]
                  rw [e]
                  simp (disch := omega) only [dec_t, dec_f, inB_t, inC_t, andT_t, cond_true, cond_false, Bool.and_true, Bool.true_and, w64, wu32, wu8, nble_t, nblt_t, Bool.not_true, Bool.not_false, Bool.not_not, ieq_t, ieq_f, ine_t, ine_f, true_and, and_true, andT_l]
                  rfl
                · have e : inE b s t = 0 := by unfold inE; rw [if_neg (by simpa using h0), if_neg (by omega), if_neg h3, if_neg (fun h => h6 h.1), if_neg (by simpa using h8), if_neg h9]
                  unfold inB
                  rw [e]
                  simp (disch := omega) only [dec_t, dec_f, inB_t, inC_t, andT_t, cond_true, cond_false, Bool.and_true, Bool.true_and, w64, wu32, wu8, nble_t, nblt_t, Bool.not_true, Bool.not_false, Bool.not_not, ieq_t, ieq_f, ine_t, ine_f, true_and, and_true, andT_l]
                  rfl
              · have e : inE b s t = inC0 b s t := by unfold inE; rw [if_neg (by simpa using h0), if_neg (by omega), if_neg h3, if_neg (fun h => h6 h.1), if_pos h8]
                rw [e, if_neg h8]
                simp (disch := omega) only [dec_t, dec_f, inB_t, inC_t, andT_t, cond_true, cond_false, Bool.and_true, Bool.true_and, w64, wu32, wu8, nble_t, nblt_t, Bool.not_true, Bool.not_false, Bool.not_not, ieq_t, ieq_f, ine_t, ine_f, true_and, and_true, andT_l]
                rfl
    · have e : inE b s t = hdE b := by unfold inE; rw [if_pos h0]
      rw [e, if_neg h0]
      simp (disch := omega) only [dec_t, dec_f, inB_t, inC_t, andT_t, cond_true, cond_false, Bool.and_true, Bool.true_and, w64, wu32, wu8, nble_t, nblt_t, Bool.not_true, Bool.not_false, Bool.not_not, ieq_t, ieq_f, ine_t, ine_f, true_and, and_true, andT_l]
      rfl
  · exact (pto_no h).elim
theorem dtIns_pcon : ∀ vs r, PTo (cDtIns vs) r → SpecP Try.prog 85 vs r := by
  intro vs r h; unfold cDtIns at h; split at h
  · rename_i b s t
    exact callP_ok Edtg_ok af_dtIns_ok (dtIns_p b s t h)
  · cases h
end Go.Proofs.Ytbojofchpnfnlaa
