/- Part Gdx of the proof: laws used by the law of this claim. -/
import Derived.Test.YtpoeinajedbfoaaDoorGds
set_option linter.all false
namespace Go.Proofs.YtpoeinajedbfoaaDoor
open Go Go.Am Go.RowKit Go.Mix Go.Bas
set_option maxRecDepth 100000
def dcB (w : List V) : List (Nat × Option Blk) := [(0, some (.var (.agg [.arr 16 (.int .i64)]) (.agg [.arr (.int .i64) 16 w]))), (1, some (.var (.arr 16 (.int .i64)) (.arr (.int .i64) 16 w)))]
def dcS (l w : List V) (t i : Int) : S := ⟨[(0, .rows (.int .i64) l), (3, .ref 0 [] 0 (.agg [.arr 16 (.int .i64)])), (4, .ref 1 [] 0 (.arr 16 (.int .i64))), (5, .int .i64 t), (6, .int .i64 i)], dcB w, 2, true, 85⟩
def dcX (w : List V) : S := ⟨[(3, .ref 0 [] 0 (.agg [.arr 16 (.int .i64)])), (4, .ref 1 [] 0 (.arr 16 (.int .i64)))], dcB w, 2, true, 85⟩
structure DcI where
  (l w : List V)
  (t i : Int)
def dcGet (s : S) : DcI := ⟨toR (lkD s 0), Am.toE (bkD s 1), toI (lkD s 5), toI (lkD s 6)⟩
/-- one more -/
def dcN (w : List V) (x : Int) : List V := if 1 ≤ x ∧ x ≤ 15 then w.set x.toNat (.int .i64 (toI (w.getD x.toNat .undef) + 1)) else w
def dcF (l : List V) : Nat → Int → List V → List V
  | 0, _, w => w
  | k + 1, i, w => dcF l k (i + 1) (dcN w (toI (l.getD i.toNat .undef)))
def dcW (w : List V) (i : Int) : Prop := w.length = 16 ∧ ∀ v ∈ w, 0 ≤ toI v ∧ toI v ≤ i
def dcI (x : DcI) : Prop := 0 ≤ x.i ∧ x.i ≤ 200 ∧ x.i ≤ x.l.length ∧ dcW x.w x.i ∧ x.t = drS x.w 16 0 ∧ 0 ≤ x.t ∧ x.t ≤ x.i
def dcO (x : DcI) : Tr := .leaf (.exit 0) (dcX (dcF x.l (min x.l.length 200 - x.i.toNat) x.i x.w))
noncomputable def dcG : S → Option (Bool × Tr) := gX dcGet (fun x => dcS x.l x.w x.t x.i) dcI dcO
noncomputable def af_DropsCounts : AF := afOf Tryd.prog Tryd.f3 [.sum [0, 3, 4, 5, 6] [] dcG, .unr 20]
noncomputable def dcC : AC := (af_DropsCounts.ac.sums.headD (.skip, [], [], fun _ => none)).1
noncomputable def af_lives31 : AF := afOf Tryd.prog Tryd.f13 []
theorem af_lives31_ok : AllOk Tryd.prog 13 af_lives31 := .flat Tryd.func13 (by kernel_rfl) (by kernel_rfl) (by kernel_rfl) (by kernel_rfl) (by kernel_rfl)
noncomputable def GElv31 : List (Nat × Con) := [(9, .val [.other .ptr] cDrTotal), (11, .val [.other .ptr] cDrText), (14, .val [.int .i64] cDrName)]
theorem GElv31_ok : GOk Tryd.prog GElv31 := .cons (enters_of Tryd.func9 (by kernel_rfl) rfl) tlTotal_con <| .cons (enters_of Tryd.func11 (by kernel_rfl) rfl) drText_con <| .cons (enters_of Tryd.func14 (by kernel_rfl) rfl) drName_con <| .nil
noncomputable def IElv31 : List (Nat × AF) := [(8, af_tlAdd), (30, af_tlIs)]
theorem IElv31_ok : IOk Tryd.prog IElv31 := .cons af_tlAdd_ok <| .cons af_tlIs_ok <| .nil
noncomputable def CElv31 : List (Nat × (List Nat × (S → Option (Bool × Tr)))) := []
theorem CElv31_ok : COk Tryd.prog CElv31 := .nil
noncomputable def XElv31 : List (Nat × (List Sh × (List V → PT))) := []
theorem XElv31_ok : XOk Tryd.prog XElv31 := .nil
noncomputable def Elv31 : Env := ⟨Tryd.prog, GElv31, IElv31, CElv31, XElv31⟩
theorem Elv31_ok : EnvOk Elv31 := ⟨by kernel_rfl, GElv31_ok, IElv31_ok, CElv31_ok, XElv31_ok⟩
theorem lives31_t : callV Elv31 af_lives31 [] = some (.bool true) := by kernel_rfl
theorem lives31_con : ∀ vs v, cTru vs = some (v, true) → SpecV Tryd.prog 13 vs v := by
  intro vs v h; unfold cTru at h; split at h
  · injection h with h; injection h with h hb; subst h
    exact callV_ok Elv31_ok af_lives31_ok (lives31_t)
  · cases h
noncomputable def GEdrh : List (Nat × Con) := [(9, .val [.other .ptr] cDrTotal), (11, .val [.other .ptr] cDrText), (12, .val [.arr 16 (.int .i64)] cRDrText), (13, .val [] cTru)]
theorem GEdrh_ok : GOk Tryd.prog GEdrh := .cons (enters_of Tryd.func9 (by kernel_rfl) rfl) tlTotal_con <| .cons (enters_of Tryd.func11 (by kernel_rfl) rfl) drText_con <| .cons (enters_of Tryd.func12 (by kernel_rfl) rfl) rDrText_con <| .cons (enters_of Tryd.func13 (by kernel_rfl) rfl) lives31_con <| .nil
noncomputable def IEdrh : List (Nat × AF) := [(8, af_tlAdd), (10, af_tlGet), (30, af_tlIs)]
theorem IEdrh_ok : IOk Tryd.prog IEdrh := .cons af_tlAdd_ok <| .cons af_tlGet_ok <| .cons af_tlIs_ok <| .nil
noncomputable def CEdrh : List (Nat × (List Nat × (S → Option (Bool × Tr)))) := []
theorem CEdrh_ok : COk Tryd.prog CEdrh := .nil
noncomputable def XEdrh : List (Nat × (List Sh × (List V → PT))) := []
theorem XEdrh_ok : XOk Tryd.prog XEdrh := .nil
noncomputable def Edrh : Env := ⟨Tryd.prog, GEdrh, IEdrh, CEdrh, XEdrh⟩
theorem Edrh_ok : EnvOk Edrh := ⟨by kernel_rfl, GEdrh_ok, IEdrh_ok, CEdrh_ok, XEdrh_ok⟩
theorem dc_b (l w : List V) (t i : Int) : aev Edrh (inlN Edrh 6) dcC (bodyF (Am.ways [0, 3, 4, 5, 6] [3, 4] [2]) []) (dcS l w t i) =
 bif decide (i < (↑l.length : Int)) then
 bif decide (i < (200 : Int)) then
 bif decide (toI (l.getD i.toNat V.undef) ≥ (1 : Int)) then
 bif andT (andT true (inB i l.length)) (inB i l.length) then
 bif decide (toI (l.getD i.toNat V.undef) ≤ (15 : Int)) then
 bif
 andT (andT (andT true (inB i l.length)) (inB (toI (l.getD i.toNat V.undef)) (16 : Nat)))
 (inB (toI (l.getD i.toNat V.undef)) (16 : Nat)) then
 bif andT true (inB i l.length) then
 bif andT true (inB i l.length) then
 bif decide (toI (l.getD i.toNat V.undef) > (0 : Int)) then
 bif !decide (toI (l.getD i.toNat V.undef) < (16 : Int)) then
 bif !false == decide (toI (l.getD i.toNat V.undef) ≤ (15 : Int)) then
 some
 (Ex.ret,
 { sl := [((2 : Nat), V.bool false)], hp := [], nx := (0 : Nat), ob := true, n := (85 : Nat) })
 else
 bif andT true (drWB w) then
 bif drS w (16 : Nat) (0 : Int) != IntKind.i64.wrap (t + (1 : Int)) then
 some
 (Ex.ret,
 { sl := [((2 : Nat), V.bool false)], hp := [], nx := (0 : Nat), ob := true, n := (85 : Nat) })
 else
 some
 (Ex.normal,
 { sl := [((0 : Nat), V.rows (Sh.int IntKind.i64) l), ((3 : Nat), V.ref (0 : Nat) [] (0 : Nat) (Sh.agg [Sh.arr (16 : Nat) (Sh.int IntKind.i64)])), ((4 : Nat), V.ref (1 : Nat) [] (0 : Nat) (Sh.arr (16 : Nat) (Sh.int IntKind.i64))), ((5 : Nat), V.int IntKind.i64 (IntKind.i64.wrap (t + (1 : Int)))), ((6 : Nat), V.int IntKind.i64 (IntKind.i64.wrap (i + (1 : Int))))], hp := [((0 : Nat), some (Blk.var (Sh.agg [Sh.arr (16 : Nat) (Sh.int IntKind.i64)]) (V.agg [V.arr (Sh.int IntKind.i64) (16 : Nat) w]))), ((1 : Nat), some (Blk.var (Sh.arr (16 : Nat) (Sh.int IntKind.i64)) (V.arr (Sh.int IntKind.i64) (16 : Nat) (w.set (toI (l.getD i.toNat V.undef)).toNat (V.int IntKind.i64 (IntKind.i64.wrap (toI (w.getD (toI (l.getD i.toNat V.undef)).toNat V.undef) + (1 : Int))))))))], nx := (2 : Nat), ob := true, n := (85 : Nat) })
 else none
 else
 bif
 andT (andT true (inB (toI (l.getD i.toNat V.undef)) (16 : Nat)))
 (inB (toI (l.getD i.toNat V.undef)) (16 : Nat)) &&
 true then
 bif !true == decide (toI (l.getD i.toNat V.undef) ≤ (15 : Int)) then
 some
 (Ex.ret,
 { sl := [((2 : Nat), V.bool false)], hp := [], nx := (0 : Nat), ob := true, n := (85 : Nat) })
 else
 bif
 andT true
 (drWB
 (w.set (toI (l.getD i.toNat V.undef)).toNat
 (V.int IntKind.i64
 (IntKind.i64.wrap
 (toI (w.getD (toI (l.getD i.toNat V.undef)).toNat V.undef) + (1 : Int)))))) then
 bif
 drS
 (w.set (toI (l.getD i.toNat V.undef)).toNat
 (V.int IntKind.i64
 (IntKind.i64.wrap
 (toI (w.getD (toI (l.getD i.toNat V.undef)).toNat V.undef) + (1 : Int)))))
 (16 : Nat) (0 : Int) !=
 IntKind.i64.wrap (t + (1 : Int)) then
 some
 (Ex.ret,
 { sl := [((2 : Nat), V.bool false)], hp := [], nx := (0 : Nat), ob := true, n := (85 : Nat) })
 else
 some
 (Ex.normal,
 dcS l
 (w.set (toI (l.getD i.toNat V.undef)).toNat
 (V.int IntKind.i64
 (IntKind.i64.wrap
 (toI (w.getD (toI (l.getD i.toNat V.undef)).toNat V.undef) + (1 : Int)))))
 (IntKind.i64.wrap (t + (1 : Int))) (IntKind.i64.wrap (i + (1 : Int))))
 else none
 else none
 else
 bif !false == decide (toI (l.getD i.toNat V.undef) ≤ (15 : Int)) then
 some
 (Ex.ret,
 { sl := [((2 : Nat), V.bool false)], hp := [], nx := (0 : Nat), ob := true, n := (85 : Nat) })
 else
 bif andT true (drWB w) then
 bif drS w (16 : Nat) (0 : Int) != IntKind.i64.wrap (t + (1 : Int)) then
 some
 (Ex.ret,
 { sl := [((2 : Nat), V.bool false)], hp := [], nx := (0 : Nat), ob := true, n := (85 : Nat) })
 else
 some
 (Ex.normal,
 { sl := [((0 : Nat), V.rows (Sh.int IntKind.i64) l), ((3 : Nat), V.ref (0 : Nat) [] (0 : Nat) (Sh.agg [Sh.arr (16 : Nat) (Sh.int IntKind.i64)])), ((4 : Nat), V.ref (1 : Nat) [] (0 : Nat) (Sh.arr (16 : Nat) (Sh.int IntKind.i64))), ((5 : Nat), V.int IntKind.i64 (IntKind.i64.wrap (t + (1 : Int)))), ((6 : Nat), V.int IntKind.i64 (IntKind.i64.wrap (i + (1 : Int))))], hp := [((0 : Nat), some (Blk.var (Sh.agg [Sh.arr (16 : Nat) (Sh.int IntKind.i64)]) (V.agg [V.arr (Sh.int IntKind.i64) (16 : Nat) w]))), ((1 : Nat), some (Blk.var (Sh.arr (16 : Nat) (Sh.int IntKind.i64)) (V.arr (Sh.int IntKind.i64) (16 : Nat) (w.set (toI (l.getD i.toNat V.undef)).toNat (V.int IntKind.i64 (IntKind.i64.wrap (toI (w.getD (toI (l.getD i.toNat V.undef)).toNat V.undef) + (1 : Int))))))))], nx := (2 : Nat), ob := true, n := (85 : Nat) })
 else none
 else none
 else none
 else none
 else
 bif andT true (inB i l.length) then
 bif andT true (inB i l.length) then
 bif decide (toI (l.getD i.toNat V.undef) > (0 : Int)) then
 bif !decide (toI (l.getD i.toNat V.undef) < (16 : Int)) then
 bif !false == decide (toI (l.getD i.toNat V.undef) ≤ (15 : Int)) then
 some
 (Ex.ret,
 { sl := [((2 : Nat), V.bool false)], hp := [], nx := (0 : Nat), ob := true, n := (85 : Nat) })
 else
 bif andT true (drWB w) then
 bif drS w (16 : Nat) (0 : Int) != t then
 some
 (Ex.ret,
 { sl := [((2 : Nat), V.bool false)], hp := [], nx := (0 : Nat), ob := true, n := (85 : Nat) })
 else some (Ex.normal, dcS l w t (IntKind.i64.wrap (i + (1 : Int))))
 else none
 else
 bif
 andT (andT true (inB (toI (l.getD i.toNat V.undef)) (16 : Nat)))
 (inB (toI (l.getD i.toNat V.undef)) (16 : Nat)) &&
 true then
 bif !true == decide (toI (l.getD i.toNat V.undef) ≤ (15 : Int)) then
 some
 (Ex.ret,
 { sl := [((2 : Nat), V.bool false)], hp := [], nx := (0 : Nat), ob := true, n := (85 : Nat) })
 else
 bif
 andT true
 (drWB
 (w.set (toI (l.getD i.toNat V.undef)).toNat
 (V.int IntKind.i64
 (IntKind.i64.wrap
 (toI (w.getD (toI (l.getD i.toNat V.undef)).toNat V.undef) + (1 : Int)))))) then
 bif
 drS
 (w.set (toI (l.getD i.toNat V.undef)).toNat
 (V.int IntKind.i64
 (IntKind.i64.wrap
 (toI (w.getD (toI (l.getD i.toNat V.undef)).toNat V.undef) + (1 : Int)))))
 (16 : Nat) (0 : Int) !=
 t then
 some
 (Ex.ret,
 { sl := [((2 : Nat), V.bool false)], hp := [], nx := (0 : Nat), ob := true, n := (85 : Nat) })
 else
 some
 (Ex.normal,
 { sl := [((0 : Nat), V.rows (Sh.int IntKind.i64) l), ((3 : Nat), V.ref (0 : Nat) [] (0 : Nat) (Sh.agg [Sh.arr (16 : Nat) (Sh.int IntKind.i64)])), ((4 : Nat), V.ref (1 : Nat) [] (0 : Nat) (Sh.arr (16 : Nat) (Sh.int IntKind.i64))), ((5 : Nat), V.int IntKind.i64 t), ((6 : Nat), V.int IntKind.i64 (IntKind.i64.wrap (i + (1 : Int))))], hp := [((0 : Nat), some (Blk.var (Sh.agg [Sh.arr (16 : Nat) (Sh.int IntKind.i64)]) (V.agg [V.arr (Sh.int IntKind.i64) (16 : Nat) (w.set (toI (l.getD i.toNat V.undef)).toNat (V.int IntKind.i64 (IntKind.i64.wrap (toI (w.getD (toI (l.getD i.toNat V.undef)).toNat V.undef) + (1 : Int)))))]))), ((1 : Nat), some (Blk.var (Sh.arr (16 : Nat) (Sh.int IntKind.i64)) (V.arr (Sh.int IntKind.i64) (16 : Nat) w)))], nx := (2 : Nat), ob := true, n := (85 : Nat) })
 else none
 else none
 else
 bif !false == decide (toI (l.getD i.toNat V.undef) ≤ (15 : Int)) then
 some
 (Ex.ret,
 { sl := [((2 : Nat), V.bool false)], hp := [], nx := (0 : Nat), ob := true, n := (85 : Nat) })
 else
 bif andT true (drWB w) then
 bif drS w (16 : Nat) (0 : Int) != t then
 some
 (Ex.ret,
 { sl := [((2 : Nat), V.bool false)], hp := [], nx := (0 : Nat), ob := true, n := (85 : Nat) })
 else some (Ex.normal, dcS l w t (IntKind.i64.wrap (i + (1 : Int))))
 else none
 else none
 else none
 else none
 else
 bif andT true (inB i l.length) then
 bif andT true (inB i l.length) then
 bif andT true (inB i l.length) then
 bif decide (toI (l.getD i.toNat V.undef) > (0 : Int)) then
 bif !decide (toI (l.getD i.toNat V.undef) < (16 : Int)) then
 bif andT true (drWB w) then
 bif drS w (16 : Nat) (0 : Int) != t then
 some
 (Ex.ret,
 { sl := [((2 : Nat), V.bool false)], hp := [], nx := (0 : Nat), ob := true, n := (85 : Nat) })
 else some (Ex.normal, dcS l w t (IntKind.i64.wrap (i + (1 : Int))))
 else none
 else
 bif
 andT (andT true (inB (toI (l.getD i.toNat V.undef)) (16 : Nat)))
 (inB (toI (l.getD i.toNat V.undef)) (16 : Nat)) &&
 true then
 some
 (Ex.ret,
 { sl := [((2 : Nat), V.bool false)], hp := [], nx := (0 : Nat), ob := true, n := (85 : Nat) })
 else none
 else
 bif andT true (drWB w) then
 bif drS w (16 : Nat) (0 : Int) != t then
 some
 (Ex.ret,
 { sl := [((2 : Nat), V.bool false)], hp := [], nx := (0 : Nat), ob := true, n := (85 : Nat) })
 else some (Ex.normal, dcS l w t (IntKind.i64.wrap (i + (1 : Int))))
 else none
 else none
 else none
 else none
 else some (Ex.exit (0 : Nat), dcX w)
 else some (Ex.exit (0 : Nat), dcX w) := by kernel_rfl

theorem getD_set_same {w : List V} {x : Nat} {v : V} (h : x < w.length) : (w.set x v).getD x .undef = v := by
  rw [List.getD_eq_getElem?_getD, List.getElem?_set, if_pos rfl, if_pos h]
  rfl
theorem getD_set_other {w : List V} {x y : Nat} {v : V} (h : x ≠ y) : (w.set x v).getD y .undef = w.getD y .undef := by
  rw [List.getD_eq_getElem?_getD, List.getElem?_set, if_neg h, ← List.getD_eq_getElem?_getD]
theorem drP_set {w : List V} {x : Nat} {v : V} (h : x < w.length) (h0 : 0 < x) (h1 : x < 16) (i : Int) : drP (w.set x v) i = if i = x then toI v else drP w i := by
  by_cases c : i = x
  · subst c
    rw [if_pos rfl, drP_in (by omega) (by omega), Int.toNat_natCast, getD_set_same h]
  · rw [if_neg c]
    by_cases d : 0 < i ∧ i < 16
    · rw [drP_in d.1 d.2, drP_in d.1 d.2, getD_set_other (by omega)]
    · rw [drP_out d, drP_out d]
theorem drS_set {w : List V} {x : Nat} {v : V} (h : x < w.length) (h0 : 0 < x) (h1 : x < 16) (hp : 0 ≤ drP w x) (hv : toI v = drP w x + 1) : ∀ (k : Nat) (i : Int), drS (w.set x v) k i = drS w k i + (if i ≤ x ∧ (x : Int) < i + k then 1 else 0)
  | 0, i => by
    rw [if_neg (by omega)]
    rfl
  | k + 1, i => by
    have ih := drS_set h h0 h1 hp hv k (i + 1)
    unfold drS
    rw [ih, drP_set h h0 h1]
    by_cases c : i = x
    · subst c
      rw [if_pos rfl, hv, if_pos (by omega), if_neg (show ¬ ((x : Int) + 1 ≤ x ∧ (x : Int) < x + 1 + k) by omega), if_pos (show (x : Int) ≤ x ∧ (x : Int) < x + ((k + 1 : Nat) : Int) by omega)]
      by_cases d : drP w x > 0
      · rw [if_pos d]; omega
      · rw [if_neg d]; omega
    · rw [if_neg c]
      by_cases d : i ≤ x ∧ (x : Int) < i + ((k + 1 : Nat) : Int)
      · rw [if_pos d, if_pos (show i + 1 ≤ x ∧ (x : Int) < i + 1 + k by omega)]; omega
      · rw [if_neg d, if_neg (show ¬ (i + 1 ≤ x ∧ (x : Int) < i + 1 + k) by omega)]; omega
theorem dcW_at {w : List V} {i : Int} (h : dcW w i) {x : Nat} (hx : x < 16) : 0 ≤ toI (w.getD x .undef) ∧ toI (w.getD x .undef) ≤ i := by
  have hl := h.1
  rw [List.getD_eq_getElem?_getD, List.getElem?_eq_getElem (by omega)]
  exact h.2 _ (List.getElem_mem _)
theorem dcW_B {w : List V} {i : Int} (h : dcW w i) (hi : i ≤ 1000) : drWB w = true := by
  unfold drWB
  rw [h.1]
  refine (Bool.and_eq_true _ _).mpr ⟨rfl, List.all_eq_true.2 fun v hv => decide_eq_true ?_⟩
  have := h.2 v hv
  omega
theorem dcW_set {w : List V} {i : Int} (h : dcW w i) (h0 : 0 ≤ i) {x : Nat} (hx : x < 16) : dcW (w.set x (.int .i64 (toI (w.getD x .undef) + 1))) (i + 1) := by
  have hr := dcW_at h hx
  refine ⟨by rw [List.length_set]; exact h.1, fun v hv => ?_⟩
  rcases List.mem_or_eq_of_mem_set hv with hm | rfl
  · have := h.2 v hm; omega
  · show 0 ≤ toI (w.getD x .undef) + 1 ∧ toI (w.getD x .undef) + 1 ≤ i + 1
    omega
set_option maxRecDepth 8000 in
set_option maxHeartbeats 1000000 in
theorem dc_loop : LoopOk Tryd.prog dcC.erase [] dcG := by
  refine loopX_ok Edrh_ok (d := 6) (AC.flat_ok (by kernel_rfl)) (Am.ways [0, 3, 4, 5, 6] [3, 4] [2]) [] dcGet _ dcO dcI (fun x => (x.l.length - x.i).toNat) (fun _ => rfl) ?_
  rintro ⟨l, w, t, i⟩ ⟨h0, h1, h2, hw, ht, ht0, hti⟩
  simp only at h0 h1 h2 hw ht ht0 hti ⊢
  rw [dc_b]
  by_cases hi : i < l.length ∧ i < 200
  · have hk : min l.length 200 - i.toNat = (min l.length 200 - (i + 1).toNat) + 1 := by omega
    have hO : ∀ w2, dcN w (toI (l.getD i.toNat .undef)) = w2 → dcF l (min l.length 200 - (i + 1).toNat) (i + 1) w2 = dcF l (min l.length 200 - i.toNat) i w := by
      rintro w2 rfl
      rw [hk]
      rfl
    generalize toI (l.getD i.toNat .undef) = x at hO ⊢
    have hB := dcW_B hw (by omega)
    by_cases hx : 1 ≤ x ∧ x ≤ 15
    · obtain ⟨x, rfl⟩ := Int.eq_ofNat_of_zero_le (show 0 ≤ x by omega)
      have hr := dcW_at hw (x := x) (by omega)
      have hW := dcW_set hw h0 (x := x) (by omega)
      have hB2 := dcW_B hW (by omega)
      have hP : drP w x = toI (w.getD x .undef) := by rw [drP_in (by omega) (by omega)]; rfl
      have hS := drS_set (w := w) (x := x) (v := .int .i64 (toI (w.getD x .undef) + 1)) (by rw [hw.1]; omega) (by omega) (by omega) (by omega) (by rw [hP]; rfl) 16 0
      rw [if_pos (by omega), ← ht] at hS
      have hN : dcN w x = w.set x (.int .i64 (toI (w.getD x .undef) + 1)) := if_pos hx
      have e16 : ((t + 1) != (t + 1)) = false := by simp
      rw [Int.toNat_natCast] at *
      refine .inl ⟨⟨l, w.set x (.int .i64 (toI (w.getD x .undef) + 1)), t + 1, i + 1⟩, ?_, ⟨by dsimp only; omega, by dsimp only; omega, by dsimp only; omega, hW, hS.symm, by dsimp only; omega, by dsimp only; omega⟩, by dsimp only; omega, leaf_eq ?_⟩
      · rw [w64 (x := toI (w.getD x .undef) + 1) (by omega) (by omega), w64 (x := t + 1) (by omega) (by omega), w64 (x := i + 1) (by omega) (by omega), hB2, hS, e16]
        simp (disch := omega) only [dec_t, dec_f, inB_t, inC_t, andT_t, cond_true, cond_false, Bool.and_true, Bool.true_and, w64, wu32, wu8, nble_t, nblt_t, Bool.not_true, Bool.not_false, Bool.not_not, ieq_t, ieq_f, ine_t, ine_f, true_and, and_true, andT_l]
        simp [decide_eq_true (show (x : Int) ≤ 15 by omega)]
        try rfl
      · unfold dcO
        dsimp only
        rw [hO _ hN]
    · have hN : dcN w x = w := if_neg hx
      have e16 : (drS w 16 0 != t) = false := by rw [ht]; simp
      refine .inl ⟨⟨l, w, t, i + 1⟩, ?_, ⟨by dsimp only; omega, by dsimp only; omega, by dsimp only; omega, ⟨hw.1, fun v hv => by have := hw.2 v hv; dsimp only; omega⟩, ht, ht0, by dsimp only; omega⟩, by dsimp only; omega, leaf_eq ?_⟩
      · rw [w64 (x := i + 1) (by omega) (by omega), hB, e16]
        by_cases hx1 : 1 ≤ x
        · simp (disch := omega) only [dec_t, dec_f, inB_t, inC_t, andT_t, cond_true, cond_false, Bool.and_true, Bool.true_and, w64, wu32, wu8, nble_t, nblt_t, Bool.not_true, Bool.not_false, Bool.not_not, ieq_t, ieq_f, ine_t, ine_f, true_and, and_true, andT_l]
          simp [decide_eq_false (show ¬ x ≤ 15 by omega)]
          try rfl
        · simp (disch := omega) only [dec_t, dec_f, inB_t, inC_t, andT_t, cond_true, cond_false, Bool.and_true, Bool.true_and, w64, wu32, wu8, nble_t, nblt_t, Bool.not_true, Bool.not_false, Bool.not_not, ieq_t, ieq_f, ine_t, ine_f, true_and, and_true, andT_l]
          try simp
          try rfl
      · unfold dcO
        dsimp only
        rw [hO _ hN]
  · refine .inr ⟨.exit 0, dcX w, ?_, nofun, ?_⟩
    · by_cases hi2 : i < l.length
      · rw [dec_t hi2, dec_f (show ¬ i < 200 by omega)]
        rfl
      · rw [dec_f hi2]
        rfl
    · unfold dcO
      dsimp only
      rw [show min l.length 200 - i.toNat = 0 by omega]
      exact .leaf
theorem af_DropsCounts_ok : AllOk Tryd.prog 3 af_DropsCounts := .sums Tryd.func3 (by kernel_rfl) (by kernel_rfl) (by kernel_rfl) (by kernel_rfl) (sums_one (c := dcC) (ts := [0, 3, 4, 5, 6]) (by kernel_rfl) (by kernel_rfl) dc_loop)
def sh_DropsCounts : List Sh := [.rows (.int .i64)]
def dcZ : List V := List.replicate 16 (.int .i64 0)
def dcM (l : List V) : List V := dcF l (min l.length 200 - 0) 0 dcZ
def dcK (W : List V) : List Nat → Option V → Option V
  | [], r => r
  | k :: ks, r => bif toI (W.getD k .undef) != toI (W.getD k .undef) then some (.bool false) else dcK W ks r
theorem dcK_eq (W : List V) (r : Option V) : ∀ ks, dcK W ks r = r
  | [] => rfl
  | k :: ks => by
    unfold dcK
    rw [show (toI (W.getD k .undef) != toI (W.getD k .undef)) = false by simp, dcK_eq W r ks]
    rfl
theorem DropsCounts_u (l : List V) : callV Edrh af_DropsCounts [.rows (.int .i64) l] = bif okG (dcS l dcZ 0 0 = dcS l dcZ 0 0 ∧ dcI ⟨l, dcZ, 0, 0⟩) then dcK (dcM l) [1, 2, 3, 4, 5, 6, 7, 8, 9, 10, 11, 12, 13, 14, 15] (bif txF (dcM l) 16 0 == txF (dcM l) 16 0 then (bif andT (andT true (drWB (dcM l))) (drWB (dcM l)) && true then some (V.bool true) else none) else (bif andT (andT true (drWB (dcM l))) (drWB (dcM l)) && true then some (V.bool false) else none)) else none := by kernel_rfl
theorem dcF_W (l : List V) : ∀ (k : Nat) (i : Int) (w : List V), 0 ≤ i → dcW w i → dcW (dcF l k i w) (i + k)
  | 0, i, w, h0, h => by
    rw [show i + ((0 : Nat) : Int) = i by omega]
    exact h
  | k + 1, i, w, h0, h => by
    rw [show i + ((k + 1 : Nat) : Int) = i + 1 + k by omega]
    refine dcF_W l k (i + 1) _ (by omega) ?_
    generalize toI (l.getD i.toNat .undef) = x
    unfold dcN
    split
    · rename_i hx
      exact dcW_set h h0 (by omega)
    · exact ⟨h.1, fun v hv => by have := h.2 v hv; omega⟩
theorem dcZ_W : dcW dcZ 0 := ⟨rfl, fun v hv => by
  rw [(List.mem_replicate.1 hv).2]
  exact ⟨Int.le_refl _, Int.le_refl _⟩⟩
theorem DropsCounts_v : ∀ xs, inRs 140737488351232 sh_DropsCounts xs = true → callV Edrh af_DropsCounts xs = some (.bool true) := by
  intro xs h
  obtain ⟨zx1, zl1, rfl, zh1, zr1⟩ := inRs_cons h; clear h
  obtain ⟨l, rfl, hl, ql⟩ := inR_rows zh1; clear zh1
  obtain rfl := inRs_nil zr1; clear zr1
  have hB : drWB (dcM l) = true := dcW_B (dcF_W l _ 0 dcZ (Int.le_refl _) dcZ_W) (by omega)
  rw [DropsCounts_u, okG_t ⟨rfl, Int.le_refl _, by dsimp only; omega, by dsimp only; omega, dcZ_W, by kernel_rfl, Int.le_refl _, Int.le_refl _⟩, dcK_eq, hB]
  simp
  rfl
end Go.Proofs.YtpoeinajedbfoaaDoor
