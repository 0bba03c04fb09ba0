/- Part Gfu of the proof: laws used by the law of this claim. -/
import Derived.Test.YtpoeinajedbfoaaDoorGft
import Derived.Test.YtpoeinajedbfoaaDoorGfo
set_option linter.all false
namespace Go.Sort
end Go.Sort
namespace Go.Proofs.YtpoeinajedbfoaaDoor
open Go Go.Am Go.RowKit Go.Mix Go.Bas
set_option maxRecDepth 100000
theorem fwE_cells {X : Nat → Prop} {W : World} {v : V} {cs : List Value} (h : CRep no X W (fwE v) cs) : cs = flC (fw0 v) (fw1 v) (fw2 v) (fw3 v) := by
  rw [fwE_eq] at h
  cases h with
  | agg h =>
    cases h with
    | cons a h =>
      cases a
      cases h with
      | cons a h =>
        cases a
        cases h with
        | cons a h =>
          cases a
          cases h with
          | cons a h =>
            cases a
            cases h
            simp [flC]
theorem fl_at {O : Nat → Prop} {W : World} {l : List V} {c : Value} (hv : VRep no O W (.rows fwSh l) c) {i : Nat} (hi : i < l.length) : ∃ d, (Instr.indexAt 50 c (.int .i64 i)).run Tryd.prog W = .ok d W ∧ (Instr.loadAt 40 d).run Tryd.prog W = .ok (.agg (flC (fw0 (l.getD i .undef)) (fw1 (l.getD i .undef)) (fw2 (l.getD i .undef)) (fw3 (l.getD i .undef))).toArray) W := by
  have h1 : indexV Tryd.prog 50 (.rows fwSh l) i = some ⟨.vref fwSh (eta fwSh (l.getD i .undef)), inB i l.length, []⟩ := by
    have e : indexV Tryd.prog 50 (.rows fwSh l) i = bif ixOkS Tryd.prog 50 fwSh then some ⟨.vref fwSh (eta fwSh (l.getD (i : Int).toNat .undef)), inB i l.length, []⟩ else none := rfl
    rw [e, show ixOkS Tryd.prog 50 fwSh = true by kernel_rfl, Int.toNat_natCast]
    rfl
  obtain ⟨d, r1, r2, _⟩ := op_index hv h1 (show Am.inB (i : Int) l.length = true from inB_t (by omega) (by omega))
  obtain ⟨b, off, ds, rfl, q1, q2, q3, q4, q5⟩ := r2.vref_inv
  obtain ⟨dv, r3, r4⟩ := load_rep (t := 40) (by kernel_rfl) (isR_isSh q1) q2 q5
  cases r4 with
  | one _ ha => cases ha
  | agg h _ =>
    have e := fwE_cells (v := l.getD i .undef) h
    subst e
    exact ⟨_, r1, r3⟩
theorem dl_of : ∀ (l : List V), (∀ v ∈ l, fwOk v = true) → ∃ dl : List FwT, dl.map (·.1) = l.map fwE
  | [], _ => ⟨[], rfl⟩
  | v :: l, h => by
    obtain ⟨dl, e⟩ := dl_of l fun u hu => h u (by simp [hu])
    exact ⟨⟨fwE v, rfl, h v (by simp)⟩ :: dl, by simp [e]⟩
theorem crep_fw {X : Nat → Prop} {W : World} (x : FwT) : CRep no X W x.1 (fwC x) := by
  obtain ⟨h1, h2⟩ := fwOk_of x.2.2
  have h : CRep no X W (fwE x.1) (fwC x) := by
    rw [fwE_eq]
    have e : fwC x = (fw0 x.1).map bv ++ ([.int .i64 (fw1 x.1)] ++ ((fw2 x.1).map bv ++ ([.int .i64 (fw3 x.1)] ++ []))) := by simp [fwC, flC]
    rw [e]
    exact .agg (.cons (.barr h1) (.cons (.int nofun) (.cons (.barr h2) (.cons (.int nofun) .nil))))
  rwa [x.2.1] at h
theorem creps_fw {X : Nat → Prop} {W : World} : ∀ M : List FwT, CReps no X W (M.map (·.1)) (M.flatMap fwC)
  | [] => .nil
  | x :: M => by rw [List.map_cons, List.flatMap_cons]; exact .cons (crep_fw x) (creps_fw M)
theorem isR_fw (x : FwT) : isR fwSh x.1 = true := by
  obtain ⟨h1, h2⟩ := fwOk_of x.2.2
  have h : isR fwSh (fwE x.1) = true := rfl
  rwa [x.2.1] at h
set_option maxRecDepth 1000000 in
theorem sort_calls (A : Option Addr) (c : Nat) (dl : List FwT) (w : World) (hI : ∀ W, Below w.heap.size w W → ∀ i (hi : i < dl.length), ∃ d, (Instr.indexAt 50 (.slice A dl.length c) (.int .i64 i)).run Tryd.prog W = .ok d W ∧ (Instr.loadAt 40 d).run Tryd.prog W = .ok (.agg (fwC dl[i]).toArray) W) (hl : dl.length ≤ 1000) (hrg : ∀ x ∈ dl, fwRg x.1 = true) :
    Calls Tryd.prog 26 #[.slice A dl.length c] w fun e w' => ∃ (A' : Option Addr) (c' : Nat) (M : List FwT), e = .returned (.slice A' M.length c') ∧ w'.ownsRow w.heap.size 40 34 (.slice A' M.length c') M.length (M.flatMap fwC) ∧ Below w.heap.size w w' ∧ M.Pairwise (fun u v => fwLt u.1 v.1 = true) ∧ (∀ x, x ∈ M ↔ x ∈ dl) ∧ M.length ≤ dl.length := by
  have HC := hid (ord_calls A c dl w hI hl hrg)
  clear hI hl hrg
  go_enter Tryd.func26, Tryd.ntmps26
  go_wp2_with fail
  refine HC.out.mono ?_
  rintro e w' ⟨A', c', M, rfl, h⟩
  have H := hid h
  clear h HC
  go_wp2
  go_ret
  exact ⟨A', c', M, rfl, H.out⟩
/-- flows in order: what the machine's map wants too -/
def foAllG (l : List V) : Bool := foAll l && l.all fwRg
def cFlSortG : List V → Option (V × Bool)
  | [.rows (.agg [.barr 16, .int .i64, .barr 16, .int .i64]) l] => some (.ownv 40 (.rows fwSh (foM l)), foAllG l)
  | _ => none
theorem FlSort_con : ∀ vs v, cFlSortG vs = some (v, true) → SpecV Tryd.prog 26 vs v := by
  intro vs v h; unfold cFlSortG at h; split at h
  · rename_i l
    injection h with h; injection h with h hb; subst h
    obtain ⟨hA, hR⟩ := (Bool.and_eq_true _ _).mp hb
    intro O w cs hO hv
    obtain ⟨a, rfl, ha⟩ := hv.one_inv
    obtain ⟨A, n, c, rfl, hn⟩ : ∃ A n c, a = .slice A n c ∧ n = l.length := by
      cases ha with
      | one h _ => cases h with | rows hn => exact ⟨_, _, _, rfl, hn⟩
      | agg _ ha => cases ha
    obtain ⟨dl, hdl⟩ := dl_of l fun v hv => List.all_eq_true.1 ((Bool.and_eq_true _ _).mp hA).2 v hv
    have hlen : dl.length = l.length := by have := congrArg List.length hdl; simpa using this
    have hat : ∀ i (hi : i < dl.length), (dl[i]).1 = fwE (l.getD i .undef) := fun i hi => by
      have h1 : (dl.map (·.1))[i]? = (l.map fwE)[i]? := by rw [hdl]
      rw [List.getElem?_map, List.getElem?_map, List.getElem?_eq_getElem hi, List.getElem?_eq_getElem (by omega)] at h1
      injection h1 with h1
      refine Eq.trans (b := fwE l[i]) h1 ?_
      rw [List.getD_eq_getElem?_getD, List.getElem?_eq_getElem (by omega)]
      rfl
    obtain rfl : n = dl.length := by omega
    have hmem : ∀ x, x ∈ dl → ∃ v ∈ l, x.1 = fwE v := fun x hx => by
      have : x.1 ∈ l.map fwE := by rw [← hdl]; exact List.mem_map.2 ⟨x, hx, rfl⟩
      obtain ⟨v, h1, h2⟩ := List.mem_map.1 this
      exact ⟨v, h1, h2.symm⟩
    refine (sort_calls A c dl w (fun W hW i hi => ?_) (by have := foAll_len hA; omega) (fun x hx => ?_)).mono ?_
    · obtain ⟨d, e1, e2⟩ := fl_at (ha.ext (ext_below hW)) (i := i) (by omega)
      refine ⟨d, e1, ?_⟩
      rw [e2]
      have e3 : fwC dl[i] = flC (fw0 (l.getD i .undef)) (fw1 (l.getD i .undef)) (fw2 (l.getD i .undef)) (fw3 (l.getD i .undef)) := by
        unfold fwC
        rw [hat i hi]
        rfl
      rw [e3]
    · obtain ⟨v, h1, h2⟩ := hmem x hx
      rw [h2]
      exact List.all_eq_true.1 hR v h1
    · rintro e w' ⟨A', c', M, rfl, ho, hb', hM, hm, hlM⟩
      have hfo : foM l = M.map (·.1) := by
        refine foM_sorted (fun j hj => foAll_at hA hj) ?_ ?_ (by rw [List.length_map]; omega)
        · exact List.pairwise_map.2 hM
        · intro x
          rw [← hdl, List.mem_map, List.mem_map]
          constructor
          · rintro ⟨y, h1, h2⟩; exact ⟨y, (hm y).1 h1, h2⟩
          · rintro ⟨y, h1, h2⟩; exact ⟨y, (hm y).2 h1, h2⟩
      rw [hfo]
      refine ⟨hb', _, rfl, .own (n := M.length) (ds := M.flatMap fwC) ?_ ho⟩
      have hr : RowC no (fun b => O b ∨ A'.map (·.block) = some b) w' (M.map (·.1)).length fwSh (.rows fwSh (M.map (·.1))) (M.flatMap fwC) := .rows (fun x hx => by
        obtain ⟨y, _, rfl⟩ := List.mem_map.1 hx
        exact isR_fw y) (creps_fw M)
      rw [List.length_map] at hr
      exact hr
  · cases h
end Go.Proofs.YtpoeinajedbfoaaDoor

namespace Go.Proofs.YtpoeinajedbfoaaDoor
open Go Go.Am Go.RowKit Go.Mix Go.Bas
set_option maxRecDepth 100000
noncomputable def GEfom : List (Nat × Con) := [(26, .val [.rows (.agg [.barr 16, .int .i64, .barr 16, .int .i64])] cFlSortG), (27, .val [.rows (.agg [.barr 16, .int .i64, .barr 16, .int .i64])] cFlSort), (28, .val [.agg [.barr 16, .int .i64, .barr 16, .int .i64], .agg [.barr 16, .int .i64, .barr 16, .int .i64]] cFlLess), (29, .val [.agg [.barr 16, .int .i64, .barr 16, .int .i64], .agg [.barr 16, .int .i64, .barr 16, .int .i64]] cFlLess), (25, .val [] cTru)]
theorem GEfom_ok : GOk Tryd.prog GEfom := .cons (enters_of Tryd.func26 (by kernel_rfl) rfl) FlSort_con <| .cons (enters_of Tryd.func27 (by kernel_rfl) rfl) FoSort_con <| .cons (enters_of Tryd.func28 (by kernel_rfl) rfl) flLess_con <| .cons (enters_of Tryd.func29 (by kernel_rfl) rfl) rFlLess_con <| .cons (enters_of Tryd.func25 (by kernel_rfl) rfl) lives14_con <| .nil
noncomputable def IEfom : List (Nat × AF) := []
theorem IEfom_ok : IOk Tryd.prog IEfom := .nil
noncomputable def CEfom : List (Nat × (List Nat × (S → Option (Bool × Tr)))) := []
theorem CEfom_ok : COk Tryd.prog CEfom := .nil
noncomputable def XEfom : List (Nat × (List Sh × (List V → PT))) := []
theorem XEfom_ok : XOk Tryd.prog XEfom := .nil
noncomputable def Efom : Env := ⟨Tryd.prog, GEfom, IEfom, CEfom, XEfom⟩
theorem Efom_ok : EnvOk Efom := ⟨by kernel_rfl, GEfom_ok, IEfom_ok, CEfom_ok, XEfom_ok⟩
def fpS (l m : List V) (i : Int) : S := ⟨[(0, .rows fwSh l), (3, .own 0 m.length fwSh), (4, .own 1 m.length fwSh), (5, .int .i64 i)], [(0, foW m), (1, foW m)], 2, true, 63⟩
def fqS (l : List V) (i : Int) : S := ⟨[(0, .rows fwSh l), (6, .int .i64 i)], [], 0, true, 63⟩
def fpX (l : List V) : S := ⟨[(0, .rows fwSh l)], [], 0, true, 63⟩
def fpF : S := ⟨[(2, .bool false)], [], 0, true, 63⟩
structure FpI where
  (l m : List V)
  (i : Int)
structure FqI where
  (l : List V)
  (i : Int)
def fpGet (s : S) : FpI := ⟨toR (lkD s 0), toR (bkD s 0), toI (lkD s 5)⟩
def fqGet (s : S) : FqI := ⟨toR (lkD s 0), toI (lkD s 6)⟩
def fpI (x : FpI) : Prop := 0 ≤ x.i ∧ x.i ≤ x.m.length ∧ x.m.length ≤ 1000
def fqI (x : FqI) : Prop := 1 ≤ x.i ∧ x.i ≤ x.l.length + 1 ∧ foAll x.l = true
def fpO (x : FpI) : Tr := .leaf (.exit 0) (fpX x.l)
def fqO (x : FqI) : Tr := .leaf (.exit 2) (fpX x.l)
noncomputable def fpG : S → Option (Bool × Tr) := gX fpGet (fun x => fpS x.l x.m x.i) fpI fpO
noncomputable def fqG : S → Option (Bool × Tr) := gX fqGet (fun x => fqS x.l x.i) fqI fqO
noncomputable def af_FlowOrders : AF := afOf Tryd.prog Tryd.f7 [.sum [0, 3, 4, 5] [] fpG, .sum [0, 6] [] fqG]
noncomputable def fpC : AC := (af_FlowOrders.ac.sums.headD (.skip, [], [], fun _ => none)).1
noncomputable def fqC : AC := (af_FlowOrders.ac.sums.tail.headD (.skip, [], [], fun _ => none)).1
def fpEq (v : V) : Bool := fw0 v == fw0 v && (fw1 v == fw1 v && (fw2 v == fw2 v && (fw3 v == fw3 v && true)))
theorem fpEq_t (v : V) : fpEq v = true := by unfold fpEq; simp
theorem fp_u (l m : List V) (i : Int) : aev Efom (inlN Efom 6) fpC (bodyF (Am.ways [0, 3, 4, 5] [0] [2]) []) (fpS l m i) = bif decide (i < (m.length : Int)) then bif andT (andT true (inB i m.length)) (inB i m.length) && true then bif !(fpEq (m.getD i.toNat .undef)) then some (.ret, fpF) else some (.normal, fpS l m (IntKind.i64.wrap (i + 1))) else none else some (.exit 0, fpX l) := by kernel_rfl
def fqT (l : List V) (a i : Int) : Bool := andT (andT (andT (andT (andT (andT true (inB a l.length)) (inB i l.length)) (fwTwo (l.getD a.toNat .undef) (l.getD i.toNat .undef))) (inB a l.length)) (inB i l.length)) (fwTwo (l.getD a.toNat .undef) (l.getD i.toNat .undef)) && true
theorem fq_u (l : List V) (i : Int) : aev Efom (inlN Efom 6) fqC (bodyF (Am.ways [0, 6] [0] [2]) []) (fqS l i) = bif decide (i < (l.length : Int)) then bif fqT l (IntKind.i64.wrap (i - 1)) i then bif !(fwLt (l.getD (IntKind.i64.wrap (i - 1)).toNat .undef) (l.getD i.toNat .undef) == fwLt (l.getD (IntKind.i64.wrap (i - 1)).toNat .undef) (l.getD i.toNat .undef)) then some (.ret, fpF) else some (.normal, fqS l (IntKind.i64.wrap (i + 1))) else none else some (.exit 2, fpX l) := by kernel_rfl
theorem fp_loop : LoopOk Tryd.prog fpC.erase [] fpG := by
  refine loopX_ok Efom_ok (d := 6) (AC.flat_ok (by kernel_rfl)) (Am.ways [0, 3, 4, 5] [0] [2]) [] fpGet _ fpO fpI (fun x => (x.m.length - x.i).toNat) (fun _ => rfl) ?_
  rintro ⟨l, m, i⟩ ⟨h0, h1, h2⟩
  simp only at h0 h1 h2 ⊢
  rw [fp_u]
  by_cases hi : i < m.length
  · refine .inl ⟨⟨l, m, i + 1⟩, ?_, ⟨by dsimp only; omega, by dsimp only; omega, h2⟩, by dsimp only; omega, leaf_eq rfl⟩
    rw [dec_t hi, inB_t h0 hi, fpEq_t, w64 (x := i + 1) (by omega) (by omega)]
    rfl
  · refine .inr ⟨.exit 0, fpX l, ?_, nofun, .leaf⟩
    rw [dec_f hi]
    rfl
theorem fq_loop : LoopOk Tryd.prog fqC.erase [] fqG := by
  refine loopX_ok Efom_ok (d := 6) (AC.flat_ok (by kernel_rfl)) (Am.ways [0, 6] [0] [2]) [] fqGet _ fqO fqI (fun x => (x.l.length + 1 - x.i).toNat) (fun _ => rfl) ?_
  rintro ⟨l, i⟩ ⟨h0, h1, hA⟩
  simp only at h0 h1 hA ⊢
  have hL := foAll_len hA
  rw [fq_u]
  by_cases hi : i < l.length
  · refine .inl ⟨⟨l, i + 1⟩, ?_, ⟨by dsimp only; omega, by dsimp only; omega, hA⟩, by dsimp only; omega, leaf_eq rfl⟩
    rw [dec_t hi, w64 (x := i + 1) (by omega) (by omega), w64 (x := i - 1) (by omega) (by omega)]
    unfold fqT
    rw [inB_t (show 0 ≤ i by omega) hi, inB_t (show 0 ≤ i - 1 by omega) (show i - 1 < l.length by omega), fwTwo_t (foAll_at hA (by omega)) (foAll_at hA (by omega)), show ∀ b : Bool, (b == b) = true by simp]
    rfl
  · refine .inr ⟨.exit 2, fpX l, ?_, nofun, .leaf⟩
    rw [dec_f hi]
    rfl
theorem af_FlowOrders_ok : AllOk Tryd.prog 7 af_FlowOrders := .sums Tryd.func7 (by kernel_rfl) (by kernel_rfl) (by kernel_rfl) (by kernel_rfl) (sums_two (c := fpC) (c2 := fqC) (ts := [0, 3, 4, 5]) (ts2 := [0, 6]) (by kernel_rfl) (by kernel_rfl) fp_loop fq_loop)
def sh_FlowOrders : List Sh := [.rows (.agg [.barr 16, .int .i64, .barr 16, .int .i64])]
theorem FlowOrders_t (l : List V) : callV Efom af_FlowOrders [.rows (.agg [.barr 16, .int .i64, .barr 16, .int .i64]) l] =
 bif decide ((↑l.length : Int) > (60 : Int)) then some (V.bool true)
 else
 bif andT (andT true (foAllG l)) (foAll l) then
 bif (↑(foM l).length : Int) != (↑(foM l).length : Int) then some (V.bool false)
 else
 bif okG (fpS l (foM l) (0 : Int) = fpS l (foM l) (0 : Int) ∧ fpI { l := l, m := foM l, i := (0 : Int) }) then
 bif okG (fqS l (1 : Int) = fqS l (1 : Int) ∧ fqI { l := l, i := (1 : Int) }) then some (V.bool true) else none
 else none
 else none := by kernel_rfl

def sh_fwone : List Sh := [.agg [.barr 16, .int .i64, .barr 16, .int .i64]]
theorem fwIn {x : V} (h : inR 140737488351232 fwSh x = true) : fwOk x = true ∧ fwRg x = true := by
  have h : inRs 140737488351232 sh_fwone [x] = true := by
    show (inR 140737488351232 fwSh x && true) = true
    rw [h]; rfl
  generalize hx : [x] = xs at h
  obtain ⟨zx1, zl1, rfl, zh1, zr1⟩ := inRs_cons h; clear h
  obtain ⟨zg1, rfl, za1⟩ := inR_agg zh1; clear zh1
  obtain ⟨zx2, zl2, rfl, zh2, zr2⟩ := inRs_cons za1; clear za1
  obtain ⟨s, rfl, hs⟩ := inR_barr zh2; clear zh2
  obtain ⟨zx3, zl3, rfl, zh3, zr3⟩ := inRs_cons zr2; clear zr2
  obtain ⟨sp, rfl, hsp0, hsp1⟩ := inR_i64 zh3; clear zh3
  obtain ⟨zx4, zl4, rfl, zh4, zr4⟩ := inRs_cons zr3; clear zr3
  obtain ⟨d, rfl, hd⟩ := inR_barr zh4; clear zh4
  obtain ⟨zx5, zl5, rfl, zh5, zr5⟩ := inRs_cons zr4; clear zr4
  obtain ⟨dp, rfl, hdp0, hdp1⟩ := inR_i64 zh5; clear zh5
  obtain rfl := inRs_nil zr5; clear zr5
  obtain rfl := inRs_nil zr1; clear zr1
  injection hx with hx _
  subst hx
  refine ⟨?_, ?_⟩
  · show decide (s.length = 16 ∧ d.length = 16) = true
    exact decide_eq_true ⟨by omega, by omega⟩
  · show decide ((-9223372036854775808 ≤ sp ∧ sp ≤ 9223372036854775807) ∧ -9223372036854775808 ≤ dp ∧ dp ≤ 9223372036854775807) = true
    exact decide_eq_true ⟨⟨by omega, by omega⟩, by omega, by omega⟩
theorem foF_len (l : List V) : ∀ (k : Nat) (o : List V), (foF l k o).length ≤ o.length + k
  | 0, o => Nat.le_refl _
  | k + 1, o => by
    unfold foF
    split
    · omega
    · have := foF_len l k (o ++ [fwE (l.getD (foB l o l.length 0 (-1)).toNat .undef)])
      rw [List.length_append, List.length_singleton] at this
      omega
theorem FlowOrders_v : ∀ xs, inRs 140737488351232 sh_FlowOrders xs = true → callV Efom af_FlowOrders xs = some (.bool true) := by
  intro xs h
  obtain ⟨zx1, zl1, rfl, zh1, zr1⟩ := inRs_cons h; clear h
  obtain ⟨l, rfl, hl, ql⟩ := inR_rows zh1; clear zh1
  obtain rfl := inRs_nil zr1; clear zr1
  trace_state
  rw [FlowOrders_t]
  by_cases c : l.length > 60
  · rw [dec_t (show (l.length : Int) > 60 by omega)]
    rfl
  · have hA : foAll l = true := (Bool.and_eq_true _ _).mpr ⟨Nat.ble_eq.mpr (by omega), List.all_eq_true.2 fun v hv => (fwIn (ql v hv)).1⟩
    have hG : foAllG l = true := (Bool.and_eq_true _ _).mpr ⟨hA, List.all_eq_true.2 fun v hv => (fwIn (ql v hv)).2⟩
    have hm : (foM l).length ≤ 0 + (l.length + 1) := foF_len l _ []
    rw [dec_f (show ¬ (l.length : Int) > 60 by omega), hG, hA, okG_t ⟨rfl, Int.le_refl _, by dsimp only; omega, by dsimp only; omega⟩, okG_t ⟨rfl, Int.le_refl _, by dsimp only; omega, hA⟩, show (((foM l).length : Int) != ((foM l).length : Int)) = false by simp]
    rfl
end Go.Proofs.YtpoeinajedbfoaaDoor
