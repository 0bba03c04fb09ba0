/- Part Gs of the proof: laws used by the law of this claim. -/
import Derived.Defers
import Derived.Recover
import Derived.Test.YtbojofchpnfnlaaGreatGh
import Derived.Test.YtbojofchpnfnlaaGreatGr
import Derived.Test.YtbojofchpnfnlaaGreatGw
set_option linter.all false
namespace Go.Proofs.YtbojofchpnfnlaaGreat
open Go Go.Am Go.RowKit Go.Mix Go.Bas
set_option maxRecDepth 100000
/-! ### Nearer -/
def nrE (b : List UInt8) : Int := if gE b = 0 then (if gHp b < 2 then 13 else 0) else gE b
def nrB (b : List UInt8) : List UInt8 := if nrE b = 0 then hdX (gC b) (gLa b) (gLn b) (gNx b) (gHp b - 1) (gS b) (gD b) ++ b.drop 40 else []
theorem gHp_bd (b : List UInt8) : 0 ≤ gHp b ∧ gHp b ≤ 255 := by
  have h1 := gt_lo b 7
  have h2 := gt_hi b 7
  unfold gHp gz
  split <;> omega
theorem gE_40 {b : List UInt8} (h : gE b = 0) : 40 ≤ b.length := by
  unfold gE at h
  split at h
  · cases h
  · omega
theorem sxNer_v (b : List UInt8) (h : b.length ≤ 140737488352000) : callV Esmh af_sxNer [.bytes b] = some (.tup [.ownv 5 (.bytes (nrB b)), .int .i64 (nrE b)]) := by
  rw [sxNer_t]
  have hh := gHp_bd b
  unfold nrB nrE
  by_cases h0 : gE b = 0
  · have h40 := gE_40 h0
    rw [if_pos h0, w64 (x := gHp b - 1) (by omega) (by omega), cutL_all]
    have hx := hdX_len (gC b) (gLa b) (gLn b) (gNx b) (gHp b - 1) (gS b) (gD b)
    have hl : (hdX (gC b) (gLa b) (gLn b) (gNx b) (gHp b - 1) (gS b) (gD b) ++ b.drop 40).length ≤ 140737488355328 := by rw [List.length_append, List.length_drop]; omega
    by_cases h1 : gHp b < 2
    · rw [if_pos h1]
      simp (disch := omega) only [dec_t, dec_f, inB_t, inC_t, andT_t, cond_true, cond_false, Bool.and_true, Bool.true_and, w64, wu32, wu8, nble_t, nblt_t, Bool.not_true, Bool.not_false, Bool.not_not, ieq_t, ieq_f, ine_t, ine_f, true_and, and_true, andT_l]
      rfl
    · rw [if_neg h1]
      simp (disch := omega) only [dec_t, dec_f, inB_t, inC_t, andT_t, cond_true, cond_false, Bool.and_true, Bool.true_and, w64, wu32, wu8, nble_t, nblt_t, Bool.not_true, Bool.not_false, Bool.not_not, ieq_t, ieq_f, ine_t, ine_f, true_and, and_true, andT_l]
      rfl
  · rw [if_neg h0, if_neg h0]
    simp (disch := omega) only [dec_t, dec_f, inB_t, inC_t, andT_t, cond_true, cond_false, Bool.and_true, Bool.true_and, w64, wu32, wu8, nble_t, nblt_t, Bool.not_true, Bool.not_false, Bool.not_not, ieq_t, ieq_f, ine_t, ine_f, true_and, and_true, andT_l]
theorem rSxNer_v (b : List UInt8) (h : b.length ≤ 140737488352000) : callV Esmh af_rSxNer [.bytes b] = some (.tup [.ownv 5 (.bytes (nrB b)), .int .i64 (nrE b)]) := by
  rw [rSxNer_t]
  have hh := gHp_bd b
  unfold nrB nrE
  by_cases h0 : gE b = 0
  · have h40 := gE_40 h0
    rw [if_pos h0, w64 (x := gHp b - 1) (by omega) (by omega), cutL_all]
    have hx := hdX_len (gC b) (gLa b) (gLn b) (gNx b) (gHp b - 1) (gS b) (gD b)
    have hl : (hdX (gC b) (gLa b) (gLn b) (gNx b) (gHp b - 1) (gS b) (gD b) ++ b.drop 40).length ≤ 140737488355328 := by rw [List.length_append, List.length_drop]; omega
    by_cases h1 : gHp b < 2
    · rw [if_pos h1]
      simp (disch := omega) only [dec_t, dec_f, inB_t, inC_t, andT_t, cond_true, cond_false, Bool.and_true, Bool.true_and, w64, wu32, wu8, nble_t, nblt_t, Bool.not_true, Bool.not_false, Bool.not_not, ieq_t, ieq_f, ine_t, ine_f, true_and, and_true, andT_l]
      rfl
    · rw [if_neg h1]
      simp (disch := omega) only [dec_t, dec_f, inB_t, inC_t, andT_t, cond_true, cond_false, Bool.and_true, Bool.true_and, w64, wu32, wu8, nble_t, nblt_t, Bool.not_true, Bool.not_false, Bool.not_not, ieq_t, ieq_f, ine_t, ine_f, true_and, and_true, andT_l]
      rfl
  · rw [if_neg h0, if_neg h0]
    simp (disch := omega) only [dec_t, dec_f, inB_t, inC_t, andT_t, cond_true, cond_false, Bool.and_true, Bool.true_and, w64, wu32, wu8, nble_t, nblt_t, Bool.not_true, Bool.not_false, Bool.not_not, ieq_t, ieq_f, ine_t, ine_f, true_and, and_true, andT_l]
def cSxNer : List V → Option (V × Bool)
  | [.bytes b] => some (.tup [.ownv 5 (.bytes (nrB b)), .int .i64 (nrE b)], decide (b.length ≤ 140737488352000))
  | _ => none
theorem sxNer_con : ∀ vs v, cSxNer vs = some (v, true) → SpecV Tryz.prog 17 vs v := by
  intro vs v h; unfold cSxNer at h; split at h
  · rename_i b
    injection h with h; injection h with h hb; subst h
    exact callV_ok Esmh_ok af_sxNer_ok (sxNer_v b (of_decide_eq_true hb))
  · cases h
theorem rSxNer_con : ∀ vs v, cSxNer vs = some (v, true) → SpecV Tryz.prog 21 vs v := by
  intro vs v h; unfold cSxNer at h; split at h
  · rename_i b
    injection h with h; injection h with h hb; subst h
    exact callV_ok Esmh_ok af_rSxNer_ok (rSxNer_v b (of_decide_eq_true hb))
  · cases h
/-! ### giving up -/
def pnc (e : Int) : List PanicEntry := [{ v := .iface 44 (.int .i64 e), recovered := false }]
noncomputable def af_dtMust : AF := afOf Tryz.prog Tryz.f74 []
theorem af_dtMust_ok : AllOk Tryz.prog 74 af_dtMust := .flat Tryz.func74 (by kernel_rfl) (by kernel_rfl) (by kernel_rfl) (by kernel_rfl) (by kernel_rfl)
noncomputable def af_dtSo : AF := afOf Tryz.prog Tryz.f69 []
theorem af_dtSo_ok : AllOk Tryz.prog 69 af_dtSo := .flat Tryz.func69 (by kernel_rfl) (by kernel_rfl) (by kernel_rfl) (by kernel_rfl) (by kernel_rfl)
noncomputable def GEdt0 : List (Nat × Con) := []
theorem GEdt0_ok : GOk Tryz.prog GEdt0 := .nil
noncomputable def IEdt0 : List (Nat × AF) := []
theorem IEdt0_ok : IOk Tryz.prog IEdt0 := .nil
noncomputable def CEdt0 : List (Nat × (List Nat × (S → Option (Bool × Tr)))) := []
theorem CEdt0_ok : COk Tryz.prog CEdt0 := .nil
noncomputable def XEdt0 : List (Nat × (List Sh × (List V → PT))) := []
theorem XEdt0_ok : XOk Tryz.prog XEdt0 := .nil
noncomputable def Edt0 : Env := ⟨Tryz.prog, GEdt0, IEdt0, CEdt0, XEdt0⟩
theorem Edt0_ok : EnvOk Edt0 := ⟨by kernel_rfl, GEdt0_ok, IEdt0_ok, CEdt0_ok, XEdt0_ok⟩
theorem dtMust_t (e : Int) : callV Edt0 af_dtMust [.int .i64 e] =
 bif e != (0 : Int) then none else some (V.tup []) := by kernel_rfl

theorem dtSo_t (ok : Bool) (e : Int) : callV Edt0 af_dtSo [.bool ok, .int .i64 e] =
 bif !ok then none else some (V.tup []) := by kernel_rfl

theorem dtMust_n (e : Int) (he : e ≠ 0) : SpecN Tryz.prog 74 [.int .i64 e] (pnc e) := by
  intro O w cs hO hv
  obtain ⟨c, rfl, hc⟩ := hv.one_inv
  obtain ⟨rfl, _⟩ := hc.int_inv
  show Calls Tryz.prog 74 #[.int .i64 e] w _
  go_enter Tryz.func74, Tryz.ntmps74
  go_wp2
  exact ⟨rfl, Below.refl _ _, rfl⟩
theorem dtSo_n (e : Int) : SpecN Tryz.prog 69 [.bool false, .int .i64 e] (pnc e) := by
  intro O w cs hO hv
  obtain ⟨c, d, rfl, hc, hd⟩ := hv.two_inv
  cases hc.bool_inv
  obtain ⟨rfl, _⟩ := hd.int_inv
  show Calls Tryz.prog 69 #[.bool false, .int .i64 e] w _
  go_enter Tryz.func69, Tryz.ntmps69
  go_wp2
  exact ⟨rfl, Below.refl _ _, rfl⟩
noncomputable def cDtMust : List V → PT
  | [.int .i64 e] => .br (e == 0) (.val (.tup [])) (.pan (pnc e))
  | _ => .no
noncomputable def cDtSo : List V → PT
  | [.bool ok, .int .i64 e] => .br ok (.val (.tup [])) (.pan (pnc e))
  | _ => .no
theorem dtMust_pcon : ∀ vs r, PTo (cDtMust vs) r → SpecP Tryz.prog 74 vs r := by
  intro vs r h; unfold cDtMust at h; split at h
  · rename_i e
    cases he : (e == 0) with
    | true =>
      rw [he] at h
      cases h with
      | t h =>
        cases h
        have he := eq_of_beq he
        subst he
        exact callV_ok Edt0_ok af_dtMust_ok (by rw [dtMust_t]; rfl)
    | false =>
      rw [he] at h
      cases h with
      | f h => cases h; exact dtMust_n e (by simpa using he)
  · cases h
theorem dtSo_pcon : ∀ vs r, PTo (cDtSo vs) r → SpecP Tryz.prog 69 vs r := by
  intro vs r h; unfold cDtSo at h; split at h
  · rename_i ok e
    cases ok with
    | true =>
      cases h with
      | t h => cases h; exact callV_ok Edt0_ok af_dtSo_ok (by rw [dtSo_t]; rfl)
    | false =>
      cases h with
      | f h => cases h; exact dtSo_n e
  · cases h
/-! ### joined -/
def cCat : List V → Option (V × Bool)
  | [.rows (.bytes) l] => some (.ownv 5 (.bytes (jnB l)), decide ((jnB l).length ≤ 140737488355328))
  | _ => none
theorem Cat_con : ∀ vs v, cCat vs = some (v, true) → SpecV Tryz.prog 113 vs v := by
  intro vs v h; unfold cCat at h; split at h
  · rename_i l
    injection h with h; injection h with h hb; subst h
    have hb := of_decide_eq_true hb
    intro O w cs hO hv
    obtain ⟨a, rfl, ha⟩ := hv.one_inv
    cases ha with
    | one h ha =>
      cases h with
      | rows hn hc hm he hr hd =>
        obtain ⟨r1, r2⟩ := reps_bss he hr
        have hB : Bss w _ _ _ (l.map toL) := ⟨by rw [List.length_map]; exact hn, hc, hm, fun hne => by
          obtain ⟨b, off, hA, _, hlt, hce⟩ := hd (by intro e; rw [e] at hne; exact hne rfl)
          refine ⟨b, off, hA, hlt, fun j hj => ?_⟩
          obtain ⟨A', n', c', e, hB⟩ := r2 j hj
          exact ⟨A', n', c', hce j _ e, hB⟩⟩
        rw [jnB_flat] at hb ⊢
        exact kOwn (Concat_calls _ _ _ _ _ hB hb)
    | agg h ha => cases ha
  · cases h
noncomputable def af_dtJoin : AF := afOf Tryz.prog Tryz.f75 []
theorem af_dtJoin_ok : AllOk Tryz.prog 75 af_dtJoin := .flat Tryz.func75 (by kernel_rfl) (by kernel_rfl) (by kernel_rfl) (by kernel_rfl) (by kernel_rfl)
noncomputable def GEdtj : List (Nat × Con) := [(113, .val [.rows (.bytes)] cCat), (67, .app 5 aSxPut)]
theorem GEdtj_ok : GOk Tryz.prog GEdtj := .cons (enters_of Tryz.func113 (by kernel_rfl) rfl) Cat_con <| .consA (enters_of Tryz.func67 (by kernel_rfl) rfl) sxPut_app <| .nil
noncomputable def IEdtj : List (Nat × AF) := []
theorem IEdtj_ok : IOk Tryz.prog IEdtj := .nil
noncomputable def CEdtj : List (Nat × (List Nat × (S → Option (Bool × Tr)))) := []
theorem CEdtj_ok : COk Tryz.prog CEdtj := .nil
noncomputable def XEdtj : List (Nat × (List Sh × (List V → PT))) := []
theorem XEdtj_ok : XOk Tryz.prog XEdtj := .nil
noncomputable def Edtj : Env := ⟨Tryz.prog, GEdtj, IEdtj, CEdtj, XEdtj⟩
theorem Edtj_ok : EnvOk Edtj := ⟨by kernel_rfl, GEdtj_ok, IEdtj_ok, CEdtj_ok, XEdtj_ok⟩
theorem dtJoin_t (c la ln nx hp : Int) (s d : List UInt8) (l : List V) : callV Edtj af_dtJoin [.agg [.int .i64 c, .int .i64 la, .int .i64 ln, .int .i64 nx, .int .i64 hp, .barr 16 s, .barr 16 d], .rows .bytes l] =
 bif andT true (decide ((jnB l).length ≤ (140737488355328 : Nat))) then
 bif
 andT (andT true ((hdX c la (↑(jnB l).length : Int) nx hp s d).length.ble (140737488355328 : Nat)))
 (((hdX c la (↑(jnB l).length : Int) nx hp s d ++ jnB l).length * (1 : Nat)).ble (140737488355328 : Nat)) then
 some (V.ownv (5 : Nat) (V.bytes (hdX c la (↑(jnB l).length : Int) nx hp s d ++ jnB l)))
 else none
 else none := by kernel_rfl

/-! ### addresses cloned -/
noncomputable def af_dtCln : AF := afOf Tryz.prog Tryz.f71 []
theorem af_dtCln_ok : AllOk Tryz.prog 71 af_dtCln := .flat Tryz.func71 (by kernel_rfl) (by kernel_rfl) (by kernel_rfl) (by kernel_rfl) (by kernel_rfl)
theorem dtCln_t (l : List V) : callV Edt0 af_dtCln [.rows (.barr 16) l] =
 bif andT true (Nat.blt (0 : Nat) l.length) then
 bif
 andT true
 (((List.replicate (0 : Nat) (V.barr (16 : Nat) (List.replicate (16 : Nat) (0 : UInt8))) ++ l).length *
 (16 : Nat)).ble
 (140737488355328 : Nat)) then
 some
 (V.ownv (30 : Nat)
 (V.rows (Sh.barr (16 : Nat))
 (List.replicate (0 : Nat) (V.barr (16 : Nat) (List.replicate (16 : Nat) (0 : UInt8))) ++ l)))
 else none
 else none := by kernel_rfl

theorem dtCln_e (A : Option Addr) (c : Nat) (w : World) (hc : c ≤ 9223372036854775807) : Calls Tryz.prog 71 #[.slice A 0 c] w fun e w' => ∃ A' c', e = .returned (.slice A' 0 c') ∧ w'.ownsRow w.heap.size 30 16 (.slice A' 0 c') 0 [] ∧ Below w.heap.size w w' := by
  have heq : ∀ w', (binOp .eql 23 (.slice A 0 c) (.slice none 0 0)).run Tryz.prog w' = .ok (.bool A.isNone) w' := fun w' => by
    rw [bin_sl .eql (.inl rfl)]
    simp [run_eq_sl Tryz.underlying23 A 0 c]
  cases A with
  | none =>
    simp only [Option.isNone] at heq
    go_enter Tryz.func71, Tryz.ntmps71
    go_wp2
    go_ret
    exact ⟨_, _, rfl, World.ownsRow_nil _ _ _ _, Below.refl _ _⟩
  | some a =>
    simp only [Option.isNone] at heq
    go_enter Tryz.func71, Tryz.ntmps71
    go_wp2
    go_ret
    exact ⟨_, _, rfl, World.ownsRow_made (e := 30) (size := 16) w #[] 0 (Nat.le_refl _) (by unfold maxLen; omega) rfl, (Below.refl _ _).alloc (Nat.le_refl _) _⟩
def cDtCln : List V → Option (V × Bool)
  | [.rows (.barr 16) l] => some (.ownv 30 (.rows (.barr 16) l), decide (l.length * 16 ≤ 140737488355328))
  | _ => none
theorem dtCln_con : ∀ vs v, cDtCln vs = some (v, true) → SpecV Tryz.prog 71 vs v := by
  intro vs v h; unfold cDtCln at h; split at h
  · rename_i l
    injection h with h; injection h with h hb; subst h
    have hb := of_decide_eq_true hb
    cases l with
    | nil =>
      intro O w cs hO hv
      obtain ⟨a, rfl, ha⟩ := hv.one_inv
      cases ha with
      | agg _ ha => cases ha
      | one h _ =>
        cases h with
        | rows hn hc hm he hr hd =>
          rename_i A n c ds
          have hn : n = 0 := hn
          subst hn
          refine (dtCln_e A c w hm).mono ?_
          rintro e w' ⟨A', c', rfl, ho, hbl⟩
          exact ⟨hbl, _, rfl, .own (v := .rows (.barr 16) []) (ds := []) (.rows (l := []) (by simp) .nil) ho⟩
    | cons x r =>
      refine callV_ok Edt0_ok af_dtCln_ok ?_
      rw [dtCln_t]
      have h0 : 0 < (x :: r).length := by simp
      have hl : (List.replicate 0 (V.barr 16 (List.replicate 16 (0 : UInt8))) ++ x :: r).length * 16 ≤ 140737488355328 := hb
      simp (disch := omega) only [dec_t, dec_f, inB_t, inC_t, andT_t, cond_true, cond_false, Bool.and_true, Bool.true_and, w64, wu32, wu8, nble_t, nblt_t, Bool.not_true, Bool.not_false, Bool.not_not, ieq_t, ieq_f, ine_t, ine_f, true_and, and_true, andT_l]
      rfl
  · cases h
def cDtJoin : List V → Option (V × Bool)
  | [.agg [.int .i64 c, .int .i64 la, .int .i64 ln, .int .i64 nx, .int .i64 hp, .barr 16 s, .barr 16 d], .rows (.bytes) l] => some (.ownv 5 (.bytes (hdX c la (jnB l).length nx hp s d ++ jnB l)), decide ((jnB l).length ≤ 140737488355000))
  | _ => none
theorem dtJoin_v (c la ln nx hp : Int) (s d : List UInt8) (l : List V) (h : (jnB l).length ≤ 140737488355000) : callV Edtj af_dtJoin [.agg [.int .i64 c, .int .i64 la, .int .i64 ln, .int .i64 nx, .int .i64 hp, .barr 16 s, .barr 16 d], .rows .bytes l] = some (.ownv 5 (.bytes (hdX c la (jnB l).length nx hp s d ++ jnB l))) := by
  rw [dtJoin_t]
  have hx := hdX_len c la (jnB l).length nx hp s d
  have hl : (hdX c la (jnB l).length nx hp s d ++ jnB l).length ≤ 140737488355328 := by rw [List.length_append]; omega
  simp (disch := omega) only [dec_t, dec_f, inB_t, inC_t, andT_t, cond_true, cond_false, Bool.and_true, Bool.true_and, w64, wu32, wu8, nble_t, nblt_t, Bool.not_true, Bool.not_false, Bool.not_not, ieq_t, ieq_f, ine_t, ine_f, true_and, and_true, andT_l]
theorem dtJoin_con : ∀ vs v, cDtJoin vs = some (v, true) → SpecV Tryz.prog 75 vs v := by
  intro vs v h; unfold cDtJoin at h; split at h
  · rename_i c la ln nx hp s d l
    injection h with h; injection h with h hb; subst h
    exact callV_ok Edtj_ok af_dtJoin_ok (dtJoin_v c la ln nx hp s d l (of_decide_eq_true hb))
  · cases h
/-! ### addresses reversed in place -/
def revB (l : List V) (i j : Int) : List V := l.take i.toNat ++ (((l.drop i.toNat).take (j + 1 - i).toNat).reverse ++ l.drop (j + 1).toNat)
def isB16 (l : List V) : Bool := l.all fun v => match v with | .barr n _ => Nat.beq n 16 | _ => false
def rvS (T : TypeId) (l : List V) (i j : Int) : S := ⟨[(0, .own 0 l.length (.barr 16)), (2, .int .i64 i), (3, .int .i64 j)], [(0, some (.row T (.barr 16) (.rows (.barr 16) l)))], 1, true, 28⟩
def rvX (T : TypeId) (l : List V) : S := ⟨[(0, .own 0 l.length (.barr 16))], [(0, some (.row T (.barr 16) (.rows (.barr 16) l)))], 1, true, 28⟩
def rvG : S → Option (Bool × Tr) := gOf 28 1 fun sl hp => match sl 0, sl 2, sl 3, hp 0 with
  | some (.own 0 n (.barr 16)), some (.int .i64 i), some (.int .i64 j), some (.row T (.barr 16) (.rows (.barr 16) l)) => some (decide (n = l.length ∧ 0 ≤ i ∧ i ≤ j + 1 ∧ j < n ∧ n ≤ 4611686018427387904) && isB16 l, .leaf (.exit 0) (rvX T (revB l i j)))
  | _, _, _, _ => none
noncomputable def af_dtRev : AF := afOf Tryz.prog Tryz.f72 [.sum [0, 2, 3] [0] rvG]
noncomputable def rvC : AC := (af_dtRev.ac.sums.headD (.skip, [], [], fun _ => none)).1
theorem rv_b (T : TypeId) (l : List V) (i j : Int) : aev Edt0 (inlN Edt0 6) rvC (bodyF (Am.ways [0, 2, 3] [0] [0]) [0]) (rvS T l i j) =
 bif decide (i < j) then
 bif andT (andT (andT (andT true (inB j l.length)) (inB i l.length)) (inB i l.length)) (inB j l.length) && true then
 some
 (Ex.normal,
 { sl := [((0 : Nat), V.own (0 : Nat) l.length (Sh.barr (16 : Nat))), ((2 : Nat), V.int IntKind.i64 (IntKind.i64.wrap (i + (1 : Int)))), ((3 : Nat), V.int IntKind.i64 (IntKind.i64.wrap (j - (1 : Int))))], hp := [((0 : Nat), some (Blk.row T (Sh.barr (16 : Nat)) (V.rows (Sh.barr (16 : Nat)) ((l.set i.toNat (V.barr (16 : Nat) (toA (l.getD j.toNat V.undef)))).set j.toNat (V.barr (16 : Nat) (toA (l.getD i.toNat V.undef)))))))], nx := (1 : Nat), ob := true, n := (28 : Nat) })
 else none
 else
 some
 (Ex.exit (0 : Nat),
 { sl := [((0 : Nat), V.own (0 : Nat) l.length (Sh.barr (16 : Nat)))], hp := [((0 : Nat), some (Blk.row T (Sh.barr (16 : Nat)) (V.rows (Sh.barr (16 : Nat)) l)))], nx := (1 : Nat), ob := true, n := (28 : Nat) }) := by kernel_rfl

def revN (l : List V) (i k : Nat) : List V := l.take i ++ (((l.drop i).take k).reverse ++ l.drop (i + k))
theorem revN_parts (A R B : List V) : revN (A ++ (R ++ B)) A.length R.length = A ++ (R.reverse ++ B) := by
  unfold revN
  have e : List.drop (A.length + R.length) (A ++ (R ++ B)) = B := by rw [← List.append_assoc, ← List.length_append, List.drop_left]
  rw [List.take_left, List.drop_left, List.take_left, e]
theorem split5 {l : List V} {i j : Nat} (h : i < j) (hj : j < l.length) (d : V) : l = l.take i ++ (l.getD i d :: ((l.drop (i + 1)).take (j - i - 1) ++ (l.getD j d :: l.drop (j + 1)))) := by
  have e1 : l.drop i = l.getD i d :: l.drop (i + 1) := drop_next (by omega)
  have e2 : l.drop j = l.getD j d :: l.drop (j + 1) := drop_next hj
  have e3 : (l.drop (i + 1)).drop (j - i - 1) = l.drop j := by rw [List.drop_drop]; congr 1; omega
  rw [← e2, ← e3, List.take_append_drop, ← e1, List.take_append_drop]
theorem rev_step {l : List V} {i j : Nat} (h : i < j) (hj : j < l.length) {x y : V} (hx : x = l.getD i .undef) (hy : y = l.getD j .undef) :
    revN ((l.set i y).set j x) (i + 1) (j - i - 1) = revN l i (j + 1 - i) := by
  have hs := split5 h hj V.undef
  rw [← hx, ← hy] at hs
  generalize hA : l.take i = A at hs
  generalize hM : (l.drop (i + 1)).take (j - i - 1) = M at hs
  generalize hB : l.drop (j + 1) = B at hs
  have lA : A.length = i := by rw [← hA, List.length_take]; omega
  have lM : M.length = j - i - 1 := by rw [← hM, List.length_take, List.length_drop]; omega
  rw [hs]
  have s1 : (A ++ (x :: (M ++ (y :: B)))).set i y = A ++ (y :: (M ++ (y :: B))) := by
    rw [List.set_append_right _ _ (by omega), lA, Nat.sub_self]; rfl
  have s2 : (A ++ (y :: (M ++ (y :: B)))).set j x = A ++ (y :: (M ++ (x :: B))) := by
    rw [List.set_append_right _ _ (by omega), lA]
    obtain ⟨k, hk⟩ : ∃ k, j - i = k + 1 := ⟨j - i - 1, by omega⟩
    rw [hk, List.set_cons_succ, List.set_append_right _ _ (by omega), show k - M.length = 0 by omega]
    rfl
  rw [s1, s2]
  have p1 := revN_parts (A ++ [y]) M (x :: B)
  have p2 := revN_parts A (x :: (M ++ [y])) B
  rw [show (A ++ [y]).length = i + 1 by rw [List.length_append, lA]; rfl, lM] at p1
  rw [lA, show (x :: (M ++ [y])).length = j + 1 - i by rw [List.length_cons, List.length_append, lM]; simp; omega] at p2
  have q1 : A ++ [y] ++ (M ++ x :: B) = A ++ (y :: (M ++ (x :: B))) := by simp
  have q2 : A ++ (x :: (M ++ [y]) ++ B) = A ++ (x :: (M ++ (y :: B))) := by simp
  rw [q1] at p1
  rw [q2] at p2
  rw [p1, p2]
  simp
theorem revB_N {l : List V} {i j : Int} (h0 : 0 ≤ i) (h1 : i ≤ j + 1) : revB l i j = revN l i.toNat (j + 1 - i).toNat := by
  unfold revB revN
  rw [show i.toNat + (j + 1 - i).toNat = (j + 1).toNat by omega]
theorem revN_small {l : List V} {i k : Nat} (hk : k ≤ 1) : revN l i k = l := by
  unfold revN
  have e : ((l.drop i).take k).reverse = (l.drop i).take k := by
    have hl : ((l.drop i).take k).length ≤ 1 := by rw [List.length_take]; omega
    match (l.drop i).take k, hl with
    | [], _ => rfl
    | [x], _ => rfl
  rw [e, ← List.drop_drop, List.take_append_drop, List.take_append_drop]
theorem isB16_get {l : List V} {i : Nat} (h : isB16 l = true) (hi : i < l.length) : V.barr 16 (toA (l.getD i .undef)) = l.getD i .undef := by
  have hm : l.getD i .undef ∈ l := by
    rw [List.getD_eq_getElem?_getD, List.getElem?_eq_getElem hi]
    exact List.getElem_mem hi
  have := (List.all_eq_true.1 h) _ hm
  cases hv : l.getD i .undef with
  | barr n x => rw [hv] at this; rw [Nat.eq_of_beq_eq_true this]; rfl
  | _ => rw [hv] at this; cases this
theorem isB16_set {l : List V} {i : Nat} {x : List UInt8} (h : isB16 l = true) : isB16 (l.set i (.barr 16 x)) = true := by
  unfold isB16 at *
  rw [List.all_eq_true] at *
  intro v hv
  rcases List.mem_or_eq_of_mem_set hv with hv | hv
  · exact h v hv
  · subst hv; rfl
structure RvX where
  (T : TypeId)
  (l : List V)
  (i j : Int)
theorem rv_loop : LoopOk Tryz.prog rvC.erase [0] rvG := by
  refine loopF_ok Edt0_ok (d := 6) (AC.flat_ok (by kernel_rfl)) (Am.ways [0, 2, 3] [0] [0]) [0] rvG (X := RvX) (fun x => rvS x.T x.l x.i x.j) (fun x => .leaf (.exit 0) (rvX x.T (revB x.l x.i x.j))) (fun x => (0 ≤ x.i ∧ x.i ≤ x.j + 1 ∧ x.j < x.l.length ∧ x.l.length ≤ 4611686018427387904) ∧ isB16 x.l = true) (fun x => (x.j + 1 - x.i).toNat) ?_ ?_
  · intro s t h
    obtain ⟨h1, h2, h3, h⟩ := gOf_spec h
    split at h
    · rename_i n i j T l q1 q2 q3 q4
      injection h with h; injection h with hc ht
      obtain ⟨hc, hb⟩ := (Bool.and_eq_true _ _).mp hc
      obtain ⟨c1, c2, c3, c4, c5⟩ := of_decide_eq_true hc
      subst c1
      exact ⟨⟨T, l, i, j⟩, .one h1 h2 (by simp [q1, q2, q3]) (by simp [q4]), ⟨⟨c2, c3, c4, c5⟩, hb⟩, ht.symm⟩
    · cases h
  · rintro ⟨T, l, i, j⟩ ⟨⟨h0, h1, h2, hM⟩, hB⟩
    simp only at h0 h1 h2 hM hB ⊢
    rw [rv_b]
    by_cases hlt : i < j
    · have hi : i.toNat < l.length := by omega
      have hj : j.toNat < l.length := by omega
      have hll : ((l.set i.toNat (V.barr 16 (toA (l.getD j.toNat V.undef)))).set j.toNat (V.barr 16 (toA (l.getD i.toNat V.undef)))).length = l.length := by rw [List.length_set, List.length_set]
      refine .inl ⟨⟨T, (l.set i.toNat (V.barr 16 (toA (l.getD j.toNat V.undef)))).set j.toNat (V.barr 16 (toA (l.getD i.toNat V.undef))), i + 1, j - 1⟩, ?_, ⟨⟨by dsimp only; omega, by dsimp only; omega, by dsimp only; rw [hll]; omega, by dsimp only; rw [hll]; exact hM⟩, isB16_set (isB16_set hB)⟩, by dsimp only; omega, leaf_eq ?_⟩
      · rw [w64 (x := i + 1) (by omega) (by omega), w64 (x := j - 1) (by omega) (by omega)]
        unfold rvS
        simp only [hll]
        simp (disch := omega) only [dec_t, dec_f, inB_t, inC_t, andT_t, cond_true, cond_false, Bool.and_true, Bool.true_and, w64, wu32, wu8, nble_t, nblt_t, Bool.not_true, Bool.not_false, Bool.not_not, ieq_t, ieq_f, ine_t, ine_f, true_and, and_true, andT_l]
      · dsimp only
        rw [revB_N (by omega) (by omega), revB_N h0 h1, isB16_get hB hj, isB16_get hB hi, show (i + 1).toNat = i.toNat + 1 by omega, show (j - 1 + 1 - (i + 1)).toNat = j.toNat - i.toNat - 1 by omega, show (j + 1 - i).toNat = j.toNat + 1 - i.toNat by omega,
          rev_step (by omega) hj rfl rfl]
    · refine .inr ⟨.exit 0, rvX T l, ?_, nofun, ?_⟩
      · simp (disch := omega) only [dec_t, dec_f, inB_t, inC_t, andT_t, cond_true, cond_false, Bool.and_true, Bool.true_and, w64, wu32, wu8, nble_t, nblt_t, Bool.not_true, Bool.not_false, Bool.not_not, ieq_t, ieq_f, ine_t, ine_f, true_and, and_true, andT_l]
        rfl
      · rw [revB_N h0 h1, revN_small (by omega)]
        exact .leaf
theorem af_dtRev_ok : AllOk Tryz.prog 72 af_dtRev := .sums Tryz.func72 (by kernel_rfl) (by kernel_rfl) (by kernel_rfl) (by kernel_rfl) (sums_one (c := rvC) (ts := [0, 2, 3]) (by kernel_rfl) (by kernel_rfl) rv_loop)
theorem revB_all (l : List V) : revB l 0 ((l.length : Int) - 1) = l.reverse := by
  unfold revB
  rw [show ((l.length : Int) - 1 + 1 - 0).toNat = l.length by omega, show ((l.length : Int) - 1 + 1).toNat = l.length by omega]
  simp
end Go.Proofs.YtbojofchpnfnlaaGreat

namespace Go.Proofs.YtbojofchpnfnlaaGreat
open Go Go.Am Go.RowKit Go.Mix Go.Bas
set_option maxRecDepth 100000
noncomputable def af_dtHead : AF := afOf Tryz.prog Tryz.f68 []
theorem af_dtHead_ok : AllOk Tryz.prog 68 af_dtHead := .flat Tryz.func68 (by kernel_rfl) (by kernel_rfl) (by kernel_rfl) (by kernel_rfl) (by kernel_rfl)
noncomputable def GEdtb : List (Nat × Con) := [(40, .val [.bytes] cSxGet)]
theorem GEdtb_ok : GOk Tryz.prog GEdtb := .cons (enters_of Tryz.func40 (by kernel_rfl) rfl) sxGet_con <| .nil
noncomputable def IEdtb : List (Nat × AF) := []
theorem IEdtb_ok : IOk Tryz.prog IEdtb := .nil
noncomputable def CEdtb : List (Nat × (List Nat × (S → Option (Bool × Tr)))) := []
theorem CEdtb_ok : COk Tryz.prog CEdtb := .nil
noncomputable def XEdtb : List (Nat × (List Sh × (List V → PT))) := [(74, ([.int .i64], cDtMust)), (69, ([.bool, .int .i64], cDtSo))]
theorem XEdtb_ok : XOk Tryz.prog XEdtb := .cons (enters_of Tryz.func74 (by kernel_rfl) rfl) dtMust_pcon <| .cons (enters_of Tryz.func69 (by kernel_rfl) rfl) dtSo_pcon <| .nil
noncomputable def Edtb : Env := ⟨Tryz.prog, GEdtb, IEdtb, CEdtb, XEdtb⟩
theorem Edtb_ok : EnvOk Edtb := ⟨by kernel_rfl, GEdtb_ok, IEdtb_ok, CEdtb_ok, XEdtb_ok⟩
theorem dtHead_t (b : List UInt8) : callP Edtb af_dtHead [.bytes b] =
 bif gE b == (0 : Int) then
 bif gLn b == IntKind.i64.wrap ((↑b.length : Int) - (40 : Int)) then
 some
 (Sum.inl
 (V.agg
 [V.int IntKind.i64 (gC b), V.int IntKind.i64 (gLa b), V.int IntKind.i64 (gLn b), V.int IntKind.i64 (gNx b),
 V.int IntKind.i64 (gHp b), V.barr (16 : Nat) (gS b), V.barr (16 : Nat) (gD b)]))
 else some (Sum.inr [{ v := Value.iface (44 : Nat) (Value.int IntKind.i64 (5 : Int)), recovered := false }])
 else some (Sum.inr [{ v := Value.iface (44 : Nat) (Value.int IntKind.i64 (gE b)), recovered := false }]) := by kernel_rfl

theorem pto_br {c : Bool} {x y : PT} {r : V ⊕ List PanicEntry} (h : PTo (.br c x y) r) : (c = true ∧ PTo x r) ∨ (c = false ∧ PTo y r) := by
  cases h with
  | t h => exact .inl ⟨rfl, h⟩
  | f h => exact .inr ⟨rfl, h⟩
theorem pto_val {v : V} {r : V ⊕ List PanicEntry} (h : PTo (.val v) r) : r = .inl v := by cases h; rfl
theorem pto_pan {ch : List PanicEntry} {r : V ⊕ List PanicEntry} (h : PTo (.pan ch) r) : r = .inr ch := by cases h; rfl
theorem pto_no {r : V ⊕ List PanicEntry} (h : PTo .no r) : False := by cases h
/-- why a packet is none -/
def hdE (b : List UInt8) : Int := if gE b = 0 then (if gLn b = (b.length : Int) - 40 then 0 else 5) else gE b
theorem hdE_zero {b : List UInt8} (h : hdE b = 0) : gE b = 0 ∧ gLn b = (b.length : Int) - 40 := by
  unfold hdE at h
  split at h
  · rename_i h1
    split at h
    · rename_i h2; exact ⟨h1, h2⟩
    · cases h
  · rename_i h1; exact absurd h h1
noncomputable def cDtHead : List V → PT
  | [.bytes b] => .br (decide (b.length ≤ 140737488352000)) (.br (hdE b == 0) (.val (.agg [.int .i64 (gC b), .int .i64 (gLa b), .int .i64 (gLn b), .int .i64 (gNx b), .int .i64 (gHp b), .barr 16 (gS b), .barr 16 (gD b)])) (.pan (pnc (hdE b)))) .no
  | _ => .no
theorem dtHead_p (b : List UInt8) {r : V ⊕ List PanicEntry} (h : PTo (.br (decide (b.length ≤ 140737488352000)) (.br (hdE b == 0) (.val (.agg [.int .i64 (gC b), .int .i64 (gLa b), .int .i64 (gLn b), .int .i64 (gNx b), .int .i64 (gHp b), .barr 16 (gS b), .barr 16 (gD b)])) (.pan (pnc (hdE b)))) .no) r) : callP Edtb af_dtHead [.bytes b] = some r := by
  rcases pto_br h with ⟨hl, h⟩ | ⟨_, h⟩
  · have hl := of_decide_eq_true hl
    rw [dtHead_t, w64 (by omega) (by omega)]
    rcases pto_br h with ⟨h0, h⟩ | ⟨h0, h⟩
    · obtain ⟨h1, h2⟩ := hdE_zero (eq_of_beq h0)
      rw [pto_val h]
      simp (disch := omega) only [dec_t, dec_f, inB_t, inC_t, andT_t, cond_true, cond_false, Bool.and_true, Bool.true_and, w64, wu32, wu8, nble_t, nblt_t, Bool.not_true, Bool.not_false, Bool.not_not, ieq_t, ieq_f, ine_t, ine_f, true_and, and_true, andT_l]
    · rw [pto_pan h]
      have h0 : hdE b ≠ 0 := by simpa using h0
      unfold hdE at h0 ⊢
      by_cases h1 : gE b = 0
      · rw [if_pos h1] at h0 ⊢
        by_cases h2 : gLn b = (b.length : Int) - 40
        · rw [if_pos h2] at h0; exact absurd rfl h0
        · rw [if_neg h2]
          simp (disch := omega) only [dec_t, dec_f, inB_t, inC_t, andT_t, cond_true, cond_false, Bool.and_true, Bool.true_and, w64, wu32, wu8, nble_t, nblt_t, Bool.not_true, Bool.not_false, Bool.not_not, ieq_t, ieq_f, ine_t, ine_f, true_and, and_true, andT_l]
          rfl
      · rw [if_neg h1]
        simp (disch := omega) only [dec_t, dec_f, inB_t, inC_t, andT_t, cond_true, cond_false, Bool.and_true, Bool.true_and, w64, wu32, wu8, nble_t, nblt_t, Bool.not_true, Bool.not_false, Bool.not_not, ieq_t, ieq_f, ine_t, ine_f, true_and, and_true, andT_l]
        rfl
  · exact (pto_no h).elim
theorem dtHead_pcon : ∀ vs r, PTo (cDtHead vs) r → SpecP Tryz.prog 68 vs r := by
  intro vs r h; unfold cDtHead at h; split at h
  · rename_i b
    exact callP_ok Edtb_ok af_dtHead_ok (dtHead_p b h)
  · cases h
/-! ### the routing header behind it -/
def sF (t : List UInt8) : Int := zI (shE t) (gt t 5)
def sT (t : List UInt8) : Int := zI (shE t) (gt t 6 * 256 + gt t 7)
end Go.Proofs.YtbojofchpnfnlaaGreat

namespace Go.Proofs.YtbojofchpnfnlaaGreat
open Go Go.Am Go.RowKit Go.Mix Go.Bas
set_option maxRecDepth 100000
theorem gD_16 (b : List UInt8) : (gD b).length = 16 := by
  unfold gD gzb
  split
  · rename_i h
    have := gE_40 h
    rw [length_cutL]; omega
  · simp
end Go.Proofs.YtbojofchpnfnlaaGreat

namespace Go.Proofs.YtbojofchpnfnlaaGreat
open Go Go.Am Go.RowKit Go.Mix Go.Bas
set_option maxRecDepth 100000
/-! ### a region that draws its order, where a giving up may be caught -/
theorem wpS_region_draw {P : Program} {id : Nat} {ops : Array Oper} {Q : Exit → Act → List Frame → World → Prop} {a : Act} {cs : List Frame} {w : World}
    (h : ∀ t, wpOpsS P ops Q (Region.schedule (P.follows .mixedOrders) ops t) a cs w.drew) : (Code.region id ops true).wpS P Q a cs w :=
  fun b k hb hr => let ⟨e, a', cs', w', q, r⟩ := wp_opsS _ a cs w.drew (h _) b k hb hr; ⟨e, a', cs', w', q, .of_steps (.one step_region_draw) r⟩
theorem lin_go {ops : Array Oper} {fuel t : Nat} {listed : Array Bool} {acc rs : List Nat} (hr : Region.ready .any ops listed = rs) :
    Region.linearise.go .any ops (fuel + 1) t listed acc = match rs[t % rs.length]? with
      | some i => Region.linearise.go .any ops fuel (t / rs.length) (listed.setIfInBounds i true) (i :: acc)
      | none => acc.reverse := by subst hr; rfl
theorem lin4 {ops : Array Oper} (h4 : ops.size = 4) (r0 : Region.ready .any ops #[false, false, false, false] = [0, 1]) (ra : Region.ready .any ops #[true, false, false, false] = [1]) (rb : Region.ready .any ops #[false, true, false, false] = [0])
    (r2 : Region.ready .any ops #[true, true, false, false] = [2]) (r3 : Region.ready .any ops #[true, true, true, false] = [3]) (t : Nat) :
    Region.schedule true ops t = [0, 1, 2, 3] ∨ Region.schedule true ops t = [1, 0, 2, 3] := by
  unfold Region.schedule Region.linearise
  simp only [Bool.true_or, if_true, h4]
  have e0 : (Array.replicate 4 false) = #[false, false, false, false] := rfl
  rw [e0, lin_go r0]
  rcases Nat.mod_two_eq_zero_or_one t with h | h
  · left
    rw [show [0, 1].length = 2 from rfl, h]
    change Region.linearise.go .any ops 3 (t / 2) #[true, false, false, false] [0] = _
    rw [lin_go ra, show [1].length = 1 from rfl, Nat.mod_one]
    change Region.linearise.go .any ops 2 (t / 2 / 1) #[true, true, false, false] [1, 0] = _
    rw [lin_go r2, show [2].length = 1 from rfl, Nat.mod_one]
    change Region.linearise.go .any ops 1 (t / 2 / 1 / 1) #[true, true, true, false] [2, 1, 0] = _
    rw [lin_go r3, show [3].length = 1 from rfl, Nat.mod_one]
    rfl
  · right
    rw [show [0, 1].length = 2 from rfl, h]
    change Region.linearise.go .any ops 3 (t / 2) #[false, true, false, false] [1] = _
    rw [lin_go rb, show [0].length = 1 from rfl, Nat.mod_one]
    change Region.linearise.go .any ops 2 (t / 2 / 1) #[true, true, false, false] [0, 1] = _
    rw [lin_go r2, show [2].length = 1 from rfl, Nat.mod_one]
    change Region.linearise.go .any ops 1 (t / 2 / 1 / 1) #[true, true, true, false] [2, 0, 1] = _
    rw [lin_go r3, show [3].length = 1 from rfl, Nat.mod_one]
    rfl
theorem caught_nil (e : Int) (w : World) : Calls Tryz.prog 38 #[.nilIface, .int .i64 e] w fun r w' => r = .returned (.int .i64 e) ∧ w' = w := by
  go_enter Tryz.func38, Tryz.ntmps38
  go_wp2
  go_ret
  exact ⟨rfl, rfl⟩
theorem caught_ifc (x e : Int) (w : World) : Calls Tryz.prog 38 #[.iface 44 (.int .i64 x), .int .i64 e] w fun r w' => r = .returned (.int .i64 x) ∧ w' = w := by
  go_enter Tryz.func38, Tryz.ntmps38
  have ht : ∀ w, (Instr.typeAssert (.iface 44 (.int .i64 x)) 20 44 true).run Tryz.prog w = .ok (.tuple #[.int .i64 x, .bool true]) w := fun w => rfl
  go_wp2
  go_ret
  exact ⟨rfl, rfl⟩
theorem out_bytes {O : Nat → Prop} {w w' : World} {T : TypeId} {l : List UInt8} {c : Value} (h : OutRep O w w' (.ownv T (.bytes l)) c) : ∃ A n k, c = .slice A n k ∧ Go.Bas.Own w' w.heap.size T A n k l := by
  cases h with
  | val h => cases h with
    | one h _ => cases h
    | agg h _ => cases h
  | own hr ho =>
    cases hr with
    | bytes => exact ⟨_, _, _, rfl, rfl, ho⟩
theorem out_rowInt {O : Nat → Prop} {w w' : World} {T : TypeId} {l : List UInt8} {A : Option Addr} {n k : Nat} {E : Int} {B : Nat} (h : Go.Bas.Own w' B T A n k l) (hB : w.heap.size ≤ B) : OutRep O w w' (.tup [.ownv T (.bytes l), .int .i64 E]) (.tuple #[.slice A n k, .int .i64 E]) := by
  have h2 : Go.Bas.Own w' w.heap.size T A n k l := ⟨h.1, ownsRow_base h.2 hB⟩
  exact .tup (RowC.of_own h2) h2.2 (.cons (.one (.int nofun) rfl) .nil)
end Go.Proofs.YtbojofchpnfnlaaGreat

namespace Go.Proofs.YtbojofchpnfnlaaGreat
open Go Go.Am Go.RowKit Go.Mix Go.Bas
set_option maxRecDepth 100000
end Go.Proofs.YtbojofchpnfnlaaGreat

namespace Go.Proofs.YtbojofchpnfnlaaGreat
open Go Go.Am Go.RowKit Go.Mix Go.Bas
set_option maxRecDepth 100000
structure K3 (G : Nat) (w w' : World) : Prop where
  bel : Below G w w'
  oth : ∀ b, b < G ∨ G + 3 ≤ b → w'.heap[b]? = w.heap[b]?
theorem K3.refl (G : Nat) (w : World) : K3 G w w := ⟨Below.refl _ _, fun _ _ => rfl⟩
theorem K3.drew {G : Nat} {w w' : World} (h : K3 G w w') : K3 G w w'.drew := ⟨h.bel.drew, h.oth⟩
theorem K3.set {G : Nat} {w w' : World} (h : K3 G w w') {p : Addr} (hp : G ≤ p.block ∧ p.block < G + 3) (v : Value) : K3 G w (w'.setCell p v) :=
  ⟨h.bel.setCell hp.1 v, fun b hb => (Below.heap_setCell w' p v b (by omega)).trans (h.oth b hb)⟩
theorem K3.sets {G g : Nat} (hg : G ≤ g ∧ g < G + 3) : ∀ (vs : List Value) (o : Nat) {w w' : World}, K3 G w w' → K3 G w (w'.setCells g o vs)
  | [], _, _, _, h => h
  | v :: r, o, w, w', h => by rw [World.setCells]; exact K3.sets hg r (o + 1) (h.set (p := ⟨g, o, none⟩) hg v)
end Go.Proofs.YtbojofchpnfnlaaGreat

namespace Go.Proofs.YtbojofchpnfnlaaGreat
open Go Go.Am Go.RowKit Go.Mix Go.Bas
set_option maxRecDepth 100000
noncomputable def af_dtIns : AF := afOf Tryz.prog Tryz.f39 []
theorem af_dtIns_ok : AllOk Tryz.prog 39 af_dtIns := .flat Tryz.func39 (by kernel_rfl) (by kernel_rfl) (by kernel_rfl) (by kernel_rfl) (by kernel_rfl)
noncomputable def GEdtg : List (Nat × Con) := [(70, .val [.bytes, .int .i64, .int .i64] cWkWalk), (73, .val [.agg [.int .i64, .int .i64, .int .i64, .int .i64, .rows (.barr 16), .rows (.agg [.int .i64, .bytes])]] cSrhPut), (71, .val [.rows (.barr 16)] cDtCln), (75, .val [.agg [.int .i64, .int .i64, .int .i64, .int .i64, .int .i64, .barr 16, .barr 16], .rows (.bytes)] cDtJoin)]
theorem GEdtg_ok : GOk Tryz.prog GEdtg := .cons (enters_of Tryz.func70 (by kernel_rfl) rfl) wkWalk_con <| .cons (enters_of Tryz.func73 (by kernel_rfl) rfl) srhPut_con <| .cons (enters_of Tryz.func71 (by kernel_rfl) rfl) dtCln_con <| .cons (enters_of Tryz.func75 (by kernel_rfl) rfl) dtJoin_con <| .nil
noncomputable def IEdtg : List (Nat × AF) := [(72, af_dtRev)]
theorem IEdtg_ok : IOk Tryz.prog IEdtg := .cons af_dtRev_ok <| .nil
noncomputable def CEdtg : List (Nat × (List Nat × (S → Option (Bool × Tr)))) := []
theorem CEdtg_ok : COk Tryz.prog CEdtg := .nil
noncomputable def XEdtg : List (Nat × (List Sh × (List V → PT))) := [(68, ([.bytes], cDtHead)), (74, ([.int .i64], cDtMust)), (69, ([.bool, .int .i64], cDtSo))]
theorem XEdtg_ok : XOk Tryz.prog XEdtg := .cons (enters_of Tryz.func68 (by kernel_rfl) rfl) dtHead_pcon <| .cons (enters_of Tryz.func74 (by kernel_rfl) rfl) dtMust_pcon <| .cons (enters_of Tryz.func69 (by kernel_rfl) rfl) dtSo_pcon <| .nil
noncomputable def Edtg : Env := ⟨Tryz.prog, GEdtg, IEdtg, CEdtg, XEdtg⟩
theorem Edtg_ok : EnvOk Edtg := ⟨by kernel_rfl, GEdtg_ok, IEdtg_ok, CEdtg_ok, XEdtg_ok⟩
theorem dtIns_t (b : List UInt8) (s t : List V) : callP Edtg af_dtIns [.bytes b, .rows (.barr 16) s, .rows (.agg [.int .i64, .bytes]) t] =
 bif decide (b.length ≤ (140737488352000 : Nat)) then
 bif hdE b == (0 : Int) then
 bif gNx b != (43 : Int) then
 bif gNx b != (0 : Int) then
 bif decide ((↑s.length : Int) > (0 : Int)) then
 bif decide ((↑s.length : Int) < (10 : Int)) then
 bif andT true (decide (b.length ≤ (140737488355328 : Nat))) then
 bif wkE b (gNx b) (40 : Int) != (0 : Int) then
 bif andT true (decide (s.length * (16 : Nat) ≤ (140737488355328 : Nat))) && true then
 bif
 andT true
 (((s ++
 V.barr (16 : Nat) (gD b) ::
 List.replicate (nat_lit 0)
 (V.barr (16 : Nat) (List.replicate (16 : Nat) (0 : UInt8)))).length *
 (16 : Nat)).ble
 (140737488355328 : Nat)) then
 bif
 decide
 ((s ++
 V.barr (16 : Nat) (gD b) ::
 List.replicate (nat_lit 0)
 (V.barr (16 : Nat) (List.replicate (16 : Nat) (0 : UInt8)))).length =
 (s ++
 V.barr (16 : Nat) (gD b) ::
 List.replicate (nat_lit 0)
 (V.barr (16 : Nat) (List.replicate (16 : Nat) (0 : UInt8)))).length ∧
 (0 : Int) ≤ (0 : Int) ∧
 (0 : Int) ≤
 IntKind.i64.wrap
 ((↑(s ++
 V.barr (16 : Nat) (gD b) ::
 List.replicate (nat_lit 0)
 (V.barr (16 : Nat)
 (List.replicate (16 : Nat) (0 : UInt8)))).length :
 Int) -
 (1 : Int)) +
 (1 : Int) ∧
 IntKind.i64.wrap
 ((↑(s ++
 V.barr (16 : Nat) (gD b) ::
 List.replicate (nat_lit 0)
 (V.barr (16 : Nat)
 (List.replicate (16 : Nat) (0 : UInt8)))).length :
 Int) -
 (1 : Int)) <
 (↑(s ++
 V.barr (16 : Nat) (gD b) ::
 List.replicate (nat_lit 0)
 (V.barr (16 : Nat)
 (List.replicate (16 : Nat) (0 : UInt8)))).length :
 Int) ∧
 (s ++
 V.barr (16 : Nat) (gD b) ::
 List.replicate (nat_lit 0)
 (V.barr (16 : Nat) (List.replicate (16 : Nat) (0 : UInt8)))).length ≤
 (4611686018427387904 : Nat)) &&
 isB16
 (s ++
 V.barr (16 : Nat) (gD b) ::
 List.replicate (nat_lit 0)
 (V.barr (16 : Nat) (List.replicate (16 : Nat) (0 : UInt8)))) then
 bif
 andT true
 (decide (t.length ≤ (4611686018427387904 : Nat)) &&
 okS
 (revB
 (s ++
 V.barr (16 : Nat) (gD b) ::
 List.replicate (nat_lit 0)
 (V.barr (16 : Nat) (List.replicate (16 : Nat) (0 : UInt8))))
 (0 : Int)
 (IntKind.i64.wrap
 ((↑(s ++
 V.barr (16 : Nat) (gD b) ::
 List.replicate (nat_lit 0)
 (V.barr (16 : Nat)
 (List.replicate (16 : Nat) (0 : UInt8)))).length :
 Int) -
 (1 : Int))))) then
 bif
 srC (gNx b) (↑s.length : Int) (0 : Int) (0 : Int)
 (revB
 (s ++
 V.barr (16 : Nat) (gD b) ::
 List.replicate (nat_lit 0)
 (V.barr (16 : Nat) (List.replicate (16 : Nat) (0 : UInt8))))
 (0 : Int)
 (IntKind.i64.wrap
 ((↑(s ++
 V.barr (16 : Nat) (gD b) ::
 List.replicate (nat_lit 0)
 (V.barr (16 : Nat)
 (List.replicate (16 : Nat) (0 : UInt8)))).length :
 Int) -
 (1 : Int))))
 t ==
 (0 : Int) then
 bif
 decide
 (IntKind.i64.wrap
 ((↑b.length : Int) +
 (↑(srP
 { nx := gNx b, lf := (↑s.length : Int), fl := (0 : Int), tg := (0 : Int), s := revB (s ++ V.barr (16 : Nat) (gD b) :: List.replicate (nat_lit 0) (V.barr (16 : Nat) (List.replicate (16 : Nat) (0 : UInt8)))) (0 : Int) (IntKind.i64.wrap ((↑(s ++ V.barr (16 : Nat) (gD b) :: List.replicate (nat_lit 0) (V.barr (16 : Nat) (List.replicate (16 : Nat) (0 : UInt8)))).length : Int) - (1 : Int))), t := t }).length :
 Int)) ≤
 (1500 : Int)) then
 bif andT true (inB (0 : Int) s.length) && true then
 bif
 andT (andT true (Am.inC (40 : Int) b.length))
 (decide
 ((jnB
 (V.bytes
 (srP
 { nx := gNx b, lf := (↑s.length : Int), fl := (0 : Int), tg := (0 : Int), s := revB (s ++ V.barr (16 : Nat) (gD b) :: List.replicate (nat_lit 0) (V.barr (16 : Nat) (List.replicate (16 : Nat) (0 : UInt8)))) (0 : Int) (IntKind.i64.wrap ((↑(s ++ V.barr (16 : Nat) (gD b) :: List.replicate (nat_lit 0) (V.barr (16 : Nat) (List.replicate (16 : Nat) (0 : UInt8)))).length : Int) - (1 : Int))), t := t }) ::
 V.bytes (cutL b (40 : Nat) b.length) ::
 List.replicate (nat_lit 0) (V.bytes []))).length ≤
 (140737488355000 : Nat))) &&
 true then
 some
 (Sum.inl
 (V.ownv (5 : Nat)
 (V.bytes
 (hdX (gC b) (gLa b)
 (↑(jnB
 (V.bytes
 (srP
 { nx := gNx b, lf := (↑s.length : Int), fl := (0 : Int), tg := (0 : Int), s := revB (s ++ V.barr (16 : Nat) (gD b) :: List.replicate (nat_lit 0) (V.barr (16 : Nat) (List.replicate (16 : Nat) (0 : UInt8)))) (0 : Int) (IntKind.i64.wrap ((↑(s ++ V.barr (16 : Nat) (gD b) :: List.replicate (nat_lit 0) (V.barr (16 : Nat) (List.replicate (16 : Nat) (0 : UInt8)))).length : Int) - (1 : Int))), t := t }) ::
 V.bytes (cutL b (40 : Nat) b.length) ::
 List.replicate (nat_lit 0) (V.bytes []))).length :
 Int)
 (43 : Int) (gHp b) (gS b) (toA (s.getD (0 : Nat) V.undef)) ++
 jnB
 (V.bytes
 (srP
 { nx := gNx b, lf := (↑s.length : Int), fl := (0 : Int), tg := (0 : Int), s := revB (s ++ V.barr (16 : Nat) (gD b) :: List.replicate (nat_lit 0) (V.barr (16 : Nat) (List.replicate (16 : Nat) (0 : UInt8)))) (0 : Int) (IntKind.i64.wrap ((↑(s ++ V.barr (16 : Nat) (gD b) :: List.replicate (nat_lit 0) (V.barr (16 : Nat) (List.replicate (16 : Nat) (0 : UInt8)))).length : Int) - (1 : Int))), t := t }) ::
 V.bytes (cutL b (40 : Nat) b.length) ::
 List.replicate (nat_lit 0) (V.bytes []))))))
 else none
 else none
 else
 some
 (Sum.inr
 [{ v := Value.iface (44 : Nat) (Value.int IntKind.i64 (4 : Int)), recovered := false }])
 else
 some
 (Sum.inr
 [{ v := Value.iface (44 : Nat) (Value.int IntKind.i64 (srC (gNx b) (↑s.length : Int) (0 : Int) (0 : Int) (revB (s ++ V.barr (16 : Nat) (gD b) :: List.replicate (nat_lit 0) (V.barr (16 : Nat) (List.replicate (16 : Nat) (0 : UInt8)))) (0 : Int) (IntKind.i64.wrap ((↑(s ++ V.barr (16 : Nat) (gD b) :: List.replicate (nat_lit 0) (V.barr (16 : Nat) (List.replicate (16 : Nat) (0 : UInt8)))).length : Int) - (1 : Int)))) t)), recovered := false }])
 else none
 else none
 else none
 else none
 else
 bif decide ((↑(wkV b (gNx b) (40 : Int)).length : Int) ≤ (8 : Int)) then
 bif andT true (decide (s.length * (16 : Nat) ≤ (140737488355328 : Nat))) && true then
 bif
 andT true
 (((s ++
 V.barr (16 : Nat) (gD b) ::
 List.replicate (nat_lit 0)
 (V.barr (16 : Nat) (List.replicate (16 : Nat) (0 : UInt8)))).length *
 (16 : Nat)).ble
 (140737488355328 : Nat)) then
 bif
 decide
 ((s ++
 V.barr (16 : Nat) (gD b) ::
 List.replicate (nat_lit 0)
 (V.barr (16 : Nat) (List.replicate (16 : Nat) (0 : UInt8)))).length =
 (s ++
 V.barr (16 : Nat) (gD b) ::
 List.replicate (nat_lit 0)
 (V.barr (16 : Nat) (List.replicate (16 : Nat) (0 : UInt8)))).length ∧
 (0 : Int) ≤ (0 : Int) ∧
 (0 : Int) ≤
 IntKind.i64.wrap
 ((↑(s ++
 V.barr (16 : Nat) (gD b) ::
 List.replicate (nat_lit 0)
 (V.barr (16 : Nat)
 (List.replicate (16 : Nat) (0 : UInt8)))).length :
 Int) -
 (1 : Int)) +
 (1 : Int) ∧
 IntKind.i64.wrap
 ((↑(s ++
 V.barr (16 : Nat) (gD b) ::
 List.replicate (nat_lit 0)
 (V.barr (16 : Nat)
 (List.replicate (16 : Nat) (0 : UInt8)))).length :
 Int) -
 (1 : Int)) <
 (↑(s ++
 V.barr (16 : Nat) (gD b) ::
 List.replicate (nat_lit 0)
 (V.barr (16 : Nat)
 (List.replicate (16 : Nat) (0 : UInt8)))).length :
 Int) ∧
 (s ++
 V.barr (16 : Nat) (gD b) ::
 List.replicate (nat_lit 0)
 (V.barr (16 : Nat) (List.replicate (16 : Nat) (0 : UInt8)))).length ≤
 (4611686018427387904 : Nat)) &&
 isB16
 (s ++
 V.barr (16 : Nat) (gD b) ::
 List.replicate (nat_lit 0)
 (V.barr (16 : Nat) (List.replicate (16 : Nat) (0 : UInt8)))) then
 bif
 andT true
 (decide (t.length ≤ (4611686018427387904 : Nat)) &&
 okS
 (revB
 (s ++
 V.barr (16 : Nat) (gD b) ::
 List.replicate (nat_lit 0)
 (V.barr (16 : Nat) (List.replicate (16 : Nat) (0 : UInt8))))
 (0 : Int)
 (IntKind.i64.wrap
 ((↑(s ++
 V.barr (16 : Nat) (gD b) ::
 List.replicate (nat_lit 0)
 (V.barr (16 : Nat)
 (List.replicate (16 : Nat) (0 : UInt8)))).length :
 Int) -
 (1 : Int))))) then
 bif
 srC (gNx b) (↑s.length : Int) (0 : Int) (0 : Int)
 (revB
 (s ++
 V.barr (16 : Nat) (gD b) ::
 List.replicate (nat_lit 0)
 (V.barr (16 : Nat) (List.replicate (16 : Nat) (0 : UInt8))))
 (0 : Int)
 (IntKind.i64.wrap
 ((↑(s ++
 V.barr (16 : Nat) (gD b) ::
 List.replicate (nat_lit 0)
 (V.barr (16 : Nat)
 (List.replicate (16 : Nat) (0 : UInt8)))).length :
 Int) -
 (1 : Int))))
 t ==
 (0 : Int) then
 bif
 decide
 (IntKind.i64.wrap
 ((↑b.length : Int) +
 (↑(srP
 { nx := gNx b, lf := (↑s.length : Int), fl := (0 : Int), tg := (0 : Int), s := revB (s ++ V.barr (16 : Nat) (gD b) :: List.replicate (nat_lit 0) (V.barr (16 : Nat) (List.replicate (16 : Nat) (0 : UInt8)))) (0 : Int) (IntKind.i64.wrap ((↑(s ++ V.barr (16 : Nat) (gD b) :: List.replicate (nat_lit 0) (V.barr (16 : Nat) (List.replicate (16 : Nat) (0 : UInt8)))).length : Int) - (1 : Int))), t := t }).length :
 Int)) ≤
 (1500 : Int)) then
 bif andT true (inB (0 : Int) s.length) && true then
 bif
 andT (andT true (Am.inC (40 : Int) b.length))
 (decide
 ((jnB
 (V.bytes
 (srP
 { nx := gNx b, lf := (↑s.length : Int), fl := (0 : Int), tg := (0 : Int), s := revB (s ++ V.barr (16 : Nat) (gD b) :: List.replicate (nat_lit 0) (V.barr (16 : Nat) (List.replicate (16 : Nat) (0 : UInt8)))) (0 : Int) (IntKind.i64.wrap ((↑(s ++ V.barr (16 : Nat) (gD b) :: List.replicate (nat_lit 0) (V.barr (16 : Nat) (List.replicate (16 : Nat) (0 : UInt8)))).length : Int) - (1 : Int))), t := t }) ::
 V.bytes (cutL b (40 : Nat) b.length) ::
 List.replicate (nat_lit 0) (V.bytes []))).length ≤
 (140737488355000 : Nat))) &&
 true then
 some
 (Sum.inl
 (V.ownv (5 : Nat)
 (V.bytes
 (hdX (gC b) (gLa b)
 (↑(jnB
 (V.bytes
 (srP
 { nx := gNx b, lf := (↑s.length : Int), fl := (0 : Int), tg := (0 : Int), s := revB (s ++ V.barr (16 : Nat) (gD b) :: List.replicate (nat_lit 0) (V.barr (16 : Nat) (List.replicate (16 : Nat) (0 : UInt8)))) (0 : Int) (IntKind.i64.wrap ((↑(s ++ V.barr (16 : Nat) (gD b) :: List.replicate (nat_lit 0) (V.barr (16 : Nat) (List.replicate (16 : Nat) (0 : UInt8)))).length : Int) - (1 : Int))), t := t }) ::
 V.bytes (cutL b (40 : Nat) b.length) ::
 List.replicate (nat_lit 0) (V.bytes []))).length :
 Int)
 (43 : Int) (gHp b) (gS b) (toA (s.getD (0 : Nat) V.undef)) ++
 jnB
 (V.bytes
 (srP
 { nx := gNx b, lf := (↑s.length : Int), fl := (0 : Int), tg := (0 : Int), s := revB (s ++ V.barr (16 : Nat) (gD b) :: List.replicate (nat_lit 0) (V.barr (16 : Nat) (List.replicate (16 : Nat) (0 : UInt8)))) (0 : Int) (IntKind.i64.wrap ((↑(s ++ V.barr (16 : Nat) (gD b) :: List.replicate (nat_lit 0) (V.barr (16 : Nat) (List.replicate (16 : Nat) (0 : UInt8)))).length : Int) - (1 : Int))), t := t }) ::
 V.bytes (cutL b (40 : Nat) b.length) ::
 List.replicate (nat_lit 0) (V.bytes []))))))
 else none
 else none
 else
 some
 (Sum.inr
 [{ v := Value.iface (44 : Nat) (Value.int IntKind.i64 (4 : Int)), recovered := false }])
 else
 some
 (Sum.inr
 [{ v := Value.iface (44 : Nat) (Value.int IntKind.i64 (srC (gNx b) (↑s.length : Int) (0 : Int) (0 : Int) (revB (s ++ V.barr (16 : Nat) (gD b) :: List.replicate (nat_lit 0) (V.barr (16 : Nat) (List.replicate (16 : Nat) (0 : UInt8)))) (0 : Int) (IntKind.i64.wrap ((↑(s ++ V.barr (16 : Nat) (gD b) :: List.replicate (nat_lit 0) (V.barr (16 : Nat) (List.replicate (16 : Nat) (0 : UInt8)))).length : Int) - (1 : Int)))) t)), recovered := false }])
 else none
 else none
 else none
 else none
 else
 some
 (Sum.inr [{ v := Value.iface (44 : Nat) (Value.int IntKind.i64 (8 : Int)), recovered := false }])
 else none
 else some (Sum.inr [{ v := Value.iface (44 : Nat) (Value.int IntKind.i64 (8 : Int)), recovered := false }])
 else some (Sum.inr [{ v := Value.iface (44 : Nat) (Value.int IntKind.i64 (8 : Int)), recovered := false }])
 else some (Sum.inr [{ v := Value.iface (44 : Nat) (Value.int IntKind.i64 (7 : Int)), recovered := false }])
 else some (Sum.inr [{ v := Value.iface (44 : Nat) (Value.int IntKind.i64 (7 : Int)), recovered := false }])
 else some (Sum.inr [{ v := Value.iface (44 : Nat) (Value.int IntKind.i64 (hdE b)), recovered := false }])
 else none := by kernel_rfl

/-- the way of a packet: the last one first -/
def viaR (b : List UInt8) (s : List V) : List V := (s ++ [V.barr 16 (gD b)]).reverse
def inC0 (b : List UInt8) (s t : List V) : Int := srC (gNx b) (s.length : Int) 0 0 (viaR b s) t
def inX (b : List UInt8) (s t : List V) : List UInt8 := srP ⟨gNx b, (s.length : Int), 0, 0, viaR b s, t⟩
/-- why a packet can not go by way of others -/
def inE (b : List UInt8) (s t : List V) : Int :=
  if hdE b ≠ 0 then hdE b else if gNx b = 43 ∨ gNx b = 0 then 7 else if s.length = 0 ∨ 9 < s.length then 8 else
  if wkE b (gNx b) 40 = 0 ∧ 8 < (wkV b (gNx b) 40).length then 8 else if inC0 b s t ≠ 0 then inC0 b s t else if 1500 < b.length + (inX b s t).length then 4 else 0
def inB (b : List UInt8) (s t : List V) : List UInt8 := if inE b s t = 0 then hdX (gC b) (gLa b) ((inX b s t).length + ((b.length : Int) - 40)) 43 (gHp b) (gS b) (toA (s.getD 0 .undef)) ++ (inX b s t ++ b.drop 40) else []
theorem isB16_app {s : List V} {x : List UInt8} (h : isB16 s = true) : isB16 (s ++ [V.barr 16 x]) = true := by
  unfold isB16 at *
  rw [List.all_append, h]
  rfl
theorem okS_app {s : List V} {x : List UInt8} (h : okS s = true) (hx : x.length = 16) : okS (s ++ [V.barr 16 x]).reverse = true := by
  unfold okS at *
  rw [List.all_reverse, List.all_append, h]
  show (true && (Nat.beq x.length 16 && true)) = true
  rw [hx]; rfl
theorem inX_len (b : List UInt8) (s t : List V) : (inX b s t).length ≤ 3000 := by
  unfold inX srP
  split
  · rename_i hz
    obtain ⟨-, h1, h2, -, -⟩ := srC_zero (h := ⟨gNx b, (s.length : Int), 0, 0, viaR b s, t⟩) hz
    have h3 := sgs_len (viaR b s)
    have h4 := putB_len (tls t)
    rw [List.length_append, List.length_append, hdB_len]
    simp only at h1 h2 ⊢
    omega
  · simp
theorem jnB2 (x y : List UInt8) (n : Nat) (z : V) (hn : n = 0) : jnB (V.bytes x :: V.bytes y :: List.replicate n z) = x ++ y := by
  subst hn
  show x ++ (y ++ []) = x ++ y
  rw [List.append_nil]
noncomputable def cDtIns : List V → PT
  | [.bytes b, .rows (.barr 16) s, .rows (.agg [.int .i64, .bytes]) t] => .br (decide (b.length ≤ 140737488352000 ∧ t.length ≤ 4611686018427387904) && (isB16 s && okS s)) (.br (inE b s t == 0) (.val (.ownv 5 (.bytes (inB b s t)))) (.pan (pnc (inE b s t)))) .no
  | _ => .no
theorem dtIns_p (b : List UInt8) (s t : List V) {r : V ⊕ List PanicEntry} (h : PTo (cDtIns [.bytes b, .rows (.barr 16) s, .rows (.agg [.int .i64, .bytes]) t]) r) : callP Edtg af_dtIns [.bytes b, .rows (.barr 16) s, .rows (.agg [.int .i64, .bytes]) t] = some r := by
  unfold cDtIns at h
  rcases pto_br h with ⟨hl, h⟩ | ⟨_, h⟩
  · obtain ⟨hl, hS⟩ := (Bool.and_eq_true _ _).mp hl
    obtain ⟨hl, htl⟩ := of_decide_eq_true hl
    obtain ⟨hb16, hok⟩ := (Bool.and_eq_true _ _).mp hS
    have hr : r = if inE b s t = 0 then .inl (.ownv 5 (.bytes (inB b s t))) else .inr (pnc (inE b s t)) := by
      rcases pto_br h with ⟨h0, h⟩ | ⟨h0, h⟩
      · rw [pto_val h, if_pos (eq_of_beq h0)]
      · rw [pto_pan h, if_neg (by simpa using h0)]
    rw [hr, dtIns_t]
    clear hr h
    have eL : ∀ (x y : V), s ++ x :: List.replicate (nat_lit 0) y = s ++ [x] := fun _ _ => rfl
    have eJ : ∀ (x y : List UInt8) (z : V), jnB (V.bytes x :: V.bytes y :: List.replicate (nat_lit 0) z) = x ++ y := fun x y z => jnB2 x y _ z rfl
    simp only [eL, eJ, cutL_all]
    have hsl : (s ++ [V.barr 16 (gD b)]).length = s.length + 1 := by simp
    simp only [hsl]
    by_cases h0 : hdE b = 0
    · by_cases h1 : gNx b = 43
      · have e : inE b s t = 7 := by unfold inE; rw [if_neg (by simpa using h0), if_pos (.inl h1)]
        rw [e]
        simp (disch := omega) only [dec_t, dec_f, inB_t, inC_t, andT_t, cond_true, cond_false, Bool.and_true, Bool.true_and, w64, wu32, wu8, nble_t, nblt_t, Bool.not_true, Bool.not_false, Bool.not_not, ieq_t, ieq_f, ine_t, ine_f, true_and, and_true, andT_l]
        rfl
      · by_cases h2 : gNx b = 0
        · have e : inE b s t = 7 := by unfold inE; rw [if_neg (by simpa using h0), if_pos (.inr h2)]
          rw [e]
          simp (disch := omega) only [dec_t, dec_f, inB_t, inC_t, andT_t, cond_true, cond_false, Bool.and_true, Bool.true_and, w64, wu32, wu8, nble_t, nblt_t, Bool.not_true, Bool.not_false, Bool.not_not, ieq_t, ieq_f, ine_t, ine_f, true_and, and_true, andT_l]
          rfl
        · by_cases h3 : s.length = 0 ∨ 9 < s.length
          · have e : inE b s t = 8 := by unfold inE; rw [if_neg (by simpa using h0), if_neg (by omega), if_pos h3]
            rw [e]
            rcases h3 with h3 | h3
            · simp (disch := omega) only [dec_t, dec_f, inB_t, inC_t, andT_t, cond_true, cond_false, Bool.and_true, Bool.true_and, w64, wu32, wu8, nble_t, nblt_t, Bool.not_true, Bool.not_false, Bool.not_not, ieq_t, ieq_f, ine_t, ine_f, true_and, and_true, andT_l]
              rfl
            · simp (disch := omega) only [dec_t, dec_f, inB_t, inC_t, andT_t, cond_true, cond_false, Bool.and_true, Bool.true_and, w64, wu32, wu8, nble_t, nblt_t, Bool.not_true, Bool.not_false, Bool.not_not, ieq_t, ieq_f, ine_t, ine_f, true_and, and_true, andT_l]
              rfl
          · have h4 : 0 < s.length := by omega
            have h5 : s.length ≤ 9 := by omega
            have ew : IntKind.i64.wrap (((s.length + 1 : Nat) : Int) - 1) = ((s ++ [V.barr 16 (gD b)]).length : Int) - 1 := by rw [w64 (by omega) (by omega), hsl]
            simp only [ew, revB_all]
            have hB := isB16_app (x := gD b) hb16
            have hO := okS_app (x := gD b) hok (gD_16 b)
            have hX := inX_len b s t
            have hg0 : (b.drop 40).length ≤ b.length := by rw [List.length_drop]; omega
            have h40 := gE_40 (hdE_zero h0).1
            have hO' : okS (viaR b s) = true := hO
            have eV : (s ++ [V.barr 16 (gD b)]).reverse = viaR b s := rfl
            have eC : srC (gNx b) (s.length : Int) 0 0 (viaR b s) t = inC0 b s t := rfl
            have eX : srP ⟨gNx b, (s.length : Int), 0, 0, viaR b s, t⟩ = inX b s t := rfl
            simp only [eV, eC, eX, hB, hO', hsl, Bool.and_true]
            clear eL eJ ew eV eC eX hB hO hO' hb16 hok
            have hxy : (((inX b s t) ++ b.drop 40).length : Int) = (inX b s t).length + ((b.length : Int) - 40) := by rw [List.length_append, List.length_drop]; omega
            have hxl : ((inX b s t) ++ b.drop 40).length ≤ 140737488355000 := by rw [List.length_append]; omega
            rw [hxy]
            by_cases h6 : wkE b (gNx b) 40 = 0
            · by_cases h7 : 8 < (wkV b (gNx b) 40).length
              · have e : inE b s t = 8 := by unfold inE; rw [if_neg (by simpa using h0), if_neg (by omega), if_neg h3, if_pos ⟨h6, h7⟩]
                rw [e]
                simp (disch := omega) only [dec_t, dec_f, inB_t, inC_t, andT_t, cond_true, cond_false, Bool.and_true, Bool.true_and, w64, wu32, wu8, nble_t, nblt_t, Bool.not_true, Bool.not_false, Bool.not_not, ieq_t, ieq_f, ine_t, ine_f, true_and, and_true, andT_l]
                rfl
              · by_cases h8 : inC0 b s t = 0
                · by_cases h9 : 1500 < b.length + (inX b s t).length
                  · have e : inE b s t = 4 := by unfold inE; rw [if_neg (by simpa using h0), if_neg (by omega), if_neg h3, if_neg (fun h => h7 h.2), if_neg (by simpa using h8), if_pos h9]
                    rw [e]
                    simp (disch := omega) only [dec_t, dec_f, inB_t, inC_t, andT_t, cond_true, cond_false, Bool.and_true, Bool.true_and, w64, wu32, wu8, nble_t, nblt_t, Bool.not_true, Bool.not_false, Bool.not_not, ieq_t, ieq_f, ine_t, ine_f, true_and, and_true, andT_l]
                    rfl
                  · have e : inE b s t = 0 := by unfold inE; rw [if_neg (by simpa using h0), if_neg (by omega), if_neg h3, if_neg (fun h => h7 h.2), if_neg (by simpa using h8), if_neg h9]
                    unfold inB
                    rw [e]
                    simp (disch := omega) only [dec_t, dec_f, inB_t, inC_t, andT_t, cond_true, cond_false, Bool.and_true, Bool.true_and, w64, wu32, wu8, nble_t, nblt_t, Bool.not_true, Bool.not_false, Bool.not_not, ieq_t, ieq_f, ine_t, ine_f, true_and, and_true, andT_l]
                    rfl
                · have e : inE b s t = inC0 b s t := by unfold inE; rw [if_neg (by simpa using h0), if_neg (by omega), if_neg h3, if_neg (fun h => h7 h.2), if_pos h8]
                  rw [e, if_neg h8]
                  simp (disch := omega) only [dec_t, dec_f, inB_t, inC_t, andT_t, cond_true, cond_false, Bool.and_true, Bool.true_and, w64, wu32, wu8, nble_t, nblt_t, Bool.not_true, Bool.not_false, Bool.not_not, ieq_t, ieq_f, ine_t, ine_f, true_and, and_true, andT_l]
                  rfl
            · by_cases h8 : inC0 b s t = 0
              · by_cases h9 : 1500 < b.length + (inX b s t).length
                · have e : inE b s t = 4 := by unfold inE; rw [if_neg (by simpa using h0), if_neg (by omega), if_neg h3, if_neg (fun h => h6 h.1), if_neg (by simpa using h8), if_pos h9]
                  rw [e]
                  simp (disch := omega) only [dec_t, dec_f, inB_t, inC_t, andT_t, cond_true, cond_false, Bool.and_true, Bool.true_and, w64, wu32, wu8, nble_t, nblt_t, Bool.not_true, Bool.not_false, Bool.not_not, ieq_t, ieq_f, ine_t, ine_f, true_and, and_true, andT_l]
                  rfl
                · have e : inE b s t = 0 := by unfold inE; rw [if_neg (by simpa using h0), if_neg (by omega), if_neg h3, if_neg (fun h => h6 h.1), if_neg (by simpa using h8), if_neg h9]
                  unfold inB
                  rw [e]
                  simp (disch := omega) only [dec_t, dec_f, inB_t, inC_t, andT_t, cond_true, cond_false, Bool.and_true, Bool.true_and, w64, wu32, wu8, nble_t, nblt_t, Bool.not_true, Bool.not_false, Bool.not_not, ieq_t, ieq_f, ine_t, ine_f, true_and, and_true, andT_l]
                  rfl
              · have e : inE b s t = inC0 b s t := by unfold inE; rw [if_neg (by simpa using h0), if_neg (by omega), if_neg h3, if_neg (fun h => h6 h.1), if_pos h8]
                rw [e, if_neg h8]
                simp (disch := omega) only [dec_t, dec_f, inB_t, inC_t, andT_t, cond_true, cond_false, Bool.and_true, Bool.true_and, w64, wu32, wu8, nble_t, nblt_t, Bool.not_true, Bool.not_false, Bool.not_not, ieq_t, ieq_f, ine_t, ine_f, true_and, and_true, andT_l]
                rfl
    · have e : inE b s t = hdE b := by unfold inE; rw [if_pos h0]
      rw [e, if_neg h0]
      simp (disch := omega) only [dec_t, dec_f, inB_t, inC_t, andT_t, cond_true, cond_false, Bool.and_true, Bool.true_and, w64, wu32, wu8, nble_t, nblt_t, Bool.not_true, Bool.not_false, Bool.not_not, ieq_t, ieq_f, ine_t, ine_f, true_and, and_true, andT_l]
      rfl
  · exact (pto_no h).elim
theorem dtIns_pcon : ∀ vs r, PTo (cDtIns vs) r → SpecP Tryz.prog 39 vs r := by
  intro vs r h; unfold cDtIns at h; split at h
  · rename_i b s t
    exact callP_ok Edtg_ok af_dtIns_ok (dtIns_p b s t h)
  · cases h
end Go.Proofs.YtbojofchpnfnlaaGreat
