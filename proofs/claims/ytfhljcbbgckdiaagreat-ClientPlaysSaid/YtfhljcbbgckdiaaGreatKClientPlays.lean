/- ClientPlays: for every input the law returns true, and what came in reads as before. No condition of its own. -/
import Derived.Test.YtfhljcbbgckdiaaGreatGcs
import Derived.Test.YtfhljcbbgckdiaaGreatGf
import Derived.Test.YtfhljcbbgckdiaaGreatGd
set_option linter.all false
namespace Go.Proofs.YtfhljcbbgckdiaaGreat
open Go Go.Am Go.RowKit Go.Bas
set_option maxRecDepth 100000
abbrev shOp : Sh := .agg [.int .i64, .barr 16, .int .i64, .int .i64, .bytes]
def opOf (v : V) : Op4 := ⟨toI (hdV (toG v)), toA (hdV (toG v).tail), toI (hdV (toG v).tail.tail), toI (hdV (toG v).tail.tail.tail), toL (hdV (toG v).tail.tail.tail.tail)⟩
def atO (ops : List V) (i : Nat) : Op4 := opOf (ops.getD i .undef)
structure PlI where
 ops : List V
 x : CS
 i : Int
def plSl (y : PlI) : List (Nat × V) := [(1, .rows shOp y.ops), (5, cRef), (6, .ref 1 [] 0 shClR), (7, .int .i64 y.i)]
def plH (x : CS) : List (Nat × Option Blk) := [(0, some (.var shCl (.agg [.bool true, .barr 16 x.a, .int .i64 x.now, .own 2 x.l.length shCall]))), (1, some (.var shClR (clV x.a x.now x.l))), (2, some (.row 39 shCall (.rows shCall x.l)))]
def plS (y : PlI) : S := ⟨plSl y, plH y.x, 3, true, 104⟩
def plX : S := ⟨[], [], 0, true, 104⟩
def plR (b : Bool) : S := ⟨[(4, .bool b)], [], 0, true, 104⟩
def plGet (s : S) : PlI := ⟨toR (lkD s 1), ⟨toA (aG (bkD s 0) 1), toI (aG (bkD s 0) 2), toR (bkD s 2)⟩, toI (lkD s 7)⟩
def plB (ops : List V) (i : Nat) : Bool := ((ops.take 60).drop i).any fun v => decide (((opOf v).b.length : Int) > 1600)
def plI (y : PlI) : Prop := 0 ≤ y.i ∧ y.i ≤ y.ops.length ∧ lOk y.x.l ∧ y.x.a.length = 16 ∧ ∀ v ∈ y.ops, (opOf v).d.length = 16
noncomputable def plG : S → Option (Bool × Tr) := gK plGet plS plI (fun y => .br (plB y.ops y.i.toNat) (.leaf .ret (plR true)) (.leaf (.exit 0) plX))
structure PmI where
 p : PlI
 k : Int
def pmS (y : PmI) : S := ⟨[(1, .rows shOp y.p.ops), (5, cRef), (6, .ref 1 [] 0 shClR), (7, .int .i64 y.p.i), (15, .own 2 y.p.x.l.length shCall), (16, .int .i64 y.k)],
 [(0, some (.var shCl (.agg [.bool true, .barr 16 y.p.x.a, .int .i64 y.p.x.now, .own 3 y.p.x.l.length shCall]))), (1, some (.var shClR (clV y.p.x.a y.p.x.now y.p.x.l))), (2, some (.row 39 shCall (.rows shCall y.p.x.l))), (3, some (.row 39 shCall (.rows shCall y.p.x.l)))], 4, true, 104⟩
def pmGet (s : S) : PmI := ⟨plGet s, toI (lkD s 16)⟩
def pmI (y : PmI) : Prop := 0 ≤ y.k ∧ y.k ≤ y.p.x.l.length ∧ lOk y.p.x.l
noncomputable def pmG : S → Option (Bool × Tr) := gX pmGet pmS pmI (fun y => .leaf (.exit 2) (plS y.p))
noncomputable def af_ClientPlays : AF := afOf Tryz.prog Tryz.f4 [.sum [1, 5, 6, 7, 15, 16] [] pmG, .sum [1, 5, 6, 7] [] plG]
noncomputable def GEclx : List (Nat × Con) := [(12, .val [.agg [.barr 16, .int .i64, .rows (.agg [.agg [.barr 16, .int .i64, .barr 16, .int .i64], .int .i64, .int .u32, .int .u32, .int .u32, .int .u32, .int .i64, .int .i64, .int .i64, .int .i64])], .agg [.int .i64, .barr 16, .int .i64, .int .i64, .bytes]] cClRef), (14, .val [.rows (.bytes), .rows (.bytes)] cClPacks), (9, .val [] cTrue40), (7, .val [.barr 16] cClNew)]
theorem GEclx_ok : GOk Tryz.prog GEclx := .cons (enters_of Tryz.func12 (by kernel_rfl) rfl) clRef_con <| .cons (enters_of Tryz.func14 (by kernel_rfl) rfl) clPacks_con <| .cons (enters_of Tryz.func9 (by kernel_rfl) rfl) clLives40_con <| .cons (enters_of Tryz.func7 (by kernel_rfl) rfl) clNew_con <| .nil
noncomputable def IEclx : List (Nat × AF) := []
theorem IEclx_ok : IOk Tryz.prog IEclx := .nil
noncomputable def CEclx : List (Nat × (List Nat × (S → Option (Bool × Tr)))) := [(13, (vs_clDo, rf_clDo)), (11, (vs_clCalls, rf_clCalls))]
theorem CEclx_ok : COk Tryz.prog CEclx := .cons (enters_of Tryz.func13 (by kernel_rfl) rfl) clDo_ref <| .cons (enters_of Tryz.func11 (by kernel_rfl) rfl) clCalls_ref <| .nil
noncomputable def XEclx : List (Nat × (List Sh × (List V → PT))) := []
theorem XEclx_ok : XOk Tryz.prog XEclx := .nil
noncomputable def Eclx : Env := ⟨Tryz.prog, GEclx, IEclx, CEclx, XEclx, false⟩
theorem Eclx_ok : EnvOk Eclx := ⟨by kernel_rfl, GEclx_ok, IEclx_ok, CEclx_ok, XEclx_ok⟩
noncomputable def plBC : AC := (af_ClientPlays.ac.sums.headD (.skip, [], [], fun _ => none)).1
noncomputable def pmBC : AC := (plBC.sums.headD (.skip, [], [], fun _ => none)).1
def pmE (c : Cal) : Bool := ((c.s == c.s) && ((c.sp == c.sp) && ((c.d == c.d) && ((c.dp == c.dp) && true)))) && ((c.st == c.st) && ((c.fi == c.fi) && ((c.nx == c.nx) && ((c.un == c.un) && ((c.se == c.se) && ((c.off == c.off) && ((c.lo == c.lo) && ((c.si == c.si) && ((c.ag == c.ag) && true)))))))))
theorem pmE_t (c : Cal) : pmE c = true := by unfold pmE; simp
theorem pm_b (p : PlI) (k : Int) : aev Eclx (inlN Eclx 6) pmBC (bodyF (Am.ways [1, 5, 6, 7, 15, 16] [1, 5, 6, 7] [4]) []) (pmS ⟨p, k⟩) =
 bif decide (k < (p.x.l.length : Int)) then bif andT (andT true (Am.inB k p.x.l.length)) (Am.inB k p.x.l.length) && true then
 bif !(pmE (atC p.x.l k.toNat)) then some (.ret, plR false) else some (.normal, pmS ⟨p, IntKind.i64.wrap (k + 1)⟩)
 else none else some (.exit 2, plS p) := by kernel_rfl
noncomputable def plO (y : PlI) : OpR := doR ⟨y.x, atO y.ops y.i.toNat⟩
noncomputable def pmOk (y : PmI) : Bool := okG (pmS y = pmS y ∧ pmI y)
noncomputable def plRk (x : CS) (o : Op4) : Bool := okG (lOk x.l ∧ x.a.length = 16 ∧ o.d.length = 16)
noncomputable def plPk (out : List V) : Bool := okG (out = out ∧ out.length ≤ 1000)
noncomputable def plK (ops : List V) (x : CS) (i : Int) (r : OpR) : Option (Ex × S) :=
 bif wOk caS (fun x => lOk x.l) (x.of r) then
  bif r.n != r.n then some (.ret, plR false) else bif r.e != r.e then some (.ret, plR false)
  else bif andT true (plPk r.out) then
   bif (r.l.length : Int) != r.l.length then some (.ret, plR false)
   else bif pmOk ⟨⟨ops, x.of r, i⟩, 0⟩ then some (.normal, plS ⟨ops, x.of r, IntKind.i64.wrap (i + 1)⟩) else none
  else none
 else none
theorem pl_b (ops : List V) (x : CS) (i : Int) : aev Eclx (inlN Eclx 6) plBC (bodyF (Am.ways [1, 5, 6, 7] [] [4]) []) (plS ⟨ops, x, i⟩) =
 bif decide (i < (ops.length : Int)) then bif decide (i < 60) then bif andT true (Am.inB i ops.length) then
 bif decide (((atO ops i.toNat).b.length : Int) > 1600) then some (.ret, plR true)
 else bif andT (andT true (Am.inB i ops.length)) (plRk x (atO ops i.toNat)) && true then
 bif andT true (Am.inB i ops.length) then bif wOk doS doI ⟨x, atO ops i.toNat⟩ then plK ops x i (plO ⟨ops, x, i⟩) else none else none
 else none else none else some (.exit 0, plX) else some (.exit 0, plX) := by kernel_rfl
theorem pm_loop : LoopOk Tryz.prog pmBC.erase [] pmG := by
 refine loopX_ok Eclx_ok (d := 6) (AC.flat_ok (by kernel_rfl)) (Am.ways [1, 5, 6, 7, 15, 16] [1, 5, 6, 7] [4]) [] pmGet _ _ pmI (fun y => (y.p.x.l.length - y.k).toNat) (fun _ => rfl) ?_
 rintro ⟨p, k⟩ ⟨h0, h1, hl⟩
 rw [pm_b]
 have h0 : 0 ≤ k := h0
 have h1 : k ≤ p.x.l.length := h1
 have hl : lOk p.x.l := hl
 have hM := hl.1
 rw [pmE_t]
 by_cases hi : k < p.x.l.length
 ·refine .inl ⟨⟨p, k + 1⟩, ?_, ⟨by dsimp only; omega, by dsimp only; omega, hl⟩, by dsimp only; omega, leaf_eq rfl⟩
  simp (disch := omega) only [tre]
 ·refine .inr ⟨.exit 2, plS p, ?_, nofun, .leaf⟩
  simp (disch := omega) only [tre]
theorem plBC_ok : LoopsOk Tryz.prog plBC := sums_one (c := pmBC) (ts := [1, 5, 6, 7, 15, 16]) (by kernel_rfl) (by kernel_rfl) pm_loop
theorem plB_step {ops : List V} {i : Nat} (h : i < ops.length) (h6 : i < 60) : plB ops i = (decide (((atO ops i).b.length : Int) > 1600) || plB ops (i + 1)) := by
 unfold plB
 have h1 : i < (ops.take 60).length := by rw [List.length_take]; omega
 have e : (ops.take 60)[i] = ops.getD i .undef := by rw [List.getElem_take, List.getD_eq_getElem?_getD, List.getElem?_eq_getElem h]; rfl
 rw [List.drop_eq_getElem_cons h1, List.any_cons, e]
 rfl
theorem plB_end {ops : List V} {i : Nat} (h : ¬ (i < ops.length ∧ i < 60)) : plB ops i = false := by
 unfold plB
 rw [List.drop_of_length_le (by rw [List.length_take]; omega)]
 rfl
theorem pl_loop : LoopOk Tryz.prog plBC.erase [] plG := by
 refine loopK (fun _ => rfl) (fun x _ => rfl) (loopX_ok Eclx_ok (d := 6) plBC_ok (Am.ways [1, 5, 6, 7] [] [4]) [] plGet _ _ plI (fun y => (y.ops.length - y.i).toNat) (fun _ => rfl) ?_)
 rintro ⟨ops, x, i⟩ ⟨h0, h1, hl, ha, hd⟩
 rw [pl_b]
 have h0 : 0 ≤ i := h0
 have h1 : i ≤ ops.length := h1
 have hl : lOk x.l := hl
 have ha : x.a.length = 16 := ha
 have hd : ∀ v ∈ ops, (opOf v).d.length = 16 := hd
 by_cases hi : i < ops.length
 ·by_cases h6 : i < 60
  ·have hid : (atO ops i.toNat).d.length = 16 := by
    have h2 : i.toNat < ops.length := by omega
    have := hd ops[i.toNat] (List.getElem_mem h2)
    unfold atO
    rw [List.getD_eq_getElem?_getD, List.getElem?_eq_getElem h2]
    exact this
   have hst := plB_step (ops := ops) (i := i.toNat) (by omega) (by omega)
   by_cases hB : ((atO ops i.toNat).b.length : Int) > 1600
   ·refine .inr ⟨.ret, plR true, ?_, nofun, leaf_t (by show plB ops i.toNat = true; rw [hst, decide_eq_true hB]; rfl) .leaf⟩
    simp (disch := omega) only [tre]
   ·have hR : lOk (plO ⟨ops, x, i⟩).l ∧ (plO ⟨ops, x, i⟩).out.length ≤ 8 := opF_ok ha hid hl _ _ _ _ _
    have e1 : plRk x (atO ops i.toNat) = true := okG_t ⟨hl, ha, hid⟩
    have e2 : wOk doS doI ⟨x, atO ops i.toNat⟩ = true := wOk_t ⟨hl, ha, hid⟩
    have e3 : plK ops x i (plO ⟨ops, x, i⟩) = some (.normal, plS ⟨ops, x.of (plO ⟨ops, x, i⟩), i + 1⟩) := by
     generalize plO ⟨ops, x, i⟩ = r at hR
     unfold plK
     rw [wOk_t (st := caS) (I := fun x => lOk x.l) (x := x.of r) hR.1, bne_self_eq_false, bne_self_eq_false, bne_self_eq_false, show plPk r.out = true from okG_t ⟨rfl, by have := hR.2; omega⟩,
      show pmOk ⟨⟨ops, x.of r, i⟩, 0⟩ = true from okG_t ⟨rfl, Int.le_refl 0, by show (0 : Int) ≤ ((x.of r).l.length : Int); omega, hR.1⟩, w64 (x := i + 1) (by omega) (by omega)]
     rfl
    refine .inl ⟨⟨ops, x.of (plO ⟨ops, x, i⟩), i + 1⟩, ?_, ⟨by dsimp only; omega, by dsimp only; omega, hR.1, ha, hd⟩, by dsimp only; omega, leaf_eq ?_⟩
    ·rw [e1, e2, e3]
     simp (disch := omega) only [tre]
    ·dsimp only
     rw [hst, decide_eq_false hB, show (i + 1).toNat = i.toNat + 1 by omega]
     rfl
  ·refine .inr ⟨.exit 0, plX, ?_, nofun, leaf_f (show plB ops i.toNat = false from plB_end (by omega)) .leaf⟩
   simp (disch := omega) only [tre]
 ·refine .inr ⟨.exit 0, plX, ?_, nofun, leaf_f (show plB ops i.toNat = false from plB_end (by omega)) .leaf⟩
  simp (disch := omega) only [tre]
theorem af_ClientPlays_ok : AllOk Tryz.prog 4 af_ClientPlays := .sums Tryz.func4 (by kernel_rfl) (by kernel_rfl) (by kernel_rfl) (by kernel_rfl) (sums_two (c := plBC) (c2 := pmBC) (ts := [1, 5, 6, 7]) (ts2 := [1, 5, 6, 7, 15, 16]) (by kernel_rfl) (by kernel_rfl) pl_loop pm_loop)
def plS0 (ops : List V) (a : List UInt8) : S := ⟨[(1, .rows shOp ops), (5, cRef), (6, .ref 1 [] 0 shClR), (7, .int .i64 0)], [(0, some (.var shCl (.agg [.bool true, .barr 16 a, .int .i64 0, .nils]))), (1, some (.var shClR (.agg [.barr 16 a, .int .i64 0, .nils])))], 2, true, 104⟩
noncomputable def plOk (ops : List V) (a : List UInt8) : Bool := okG (Weak (plS0 ops a) (plS ⟨ops, ⟨a, 0, []⟩, 0⟩) ∧ plI ⟨ops, ⟨a, 0, []⟩, 0⟩)
def plS1 (ops : List V) (a : List UInt8) : S := ⟨[(1, .rows shOp ops), (5, cRef), (6, .ref 1 [] 0 shClR), (7, .int .i64 0)], [(0, some (.var shCl (.agg [.bool true, .barr 16 a, .int .i64 0, .own 2 0 shCall]))), (1, some (.var shClR (.agg [.barr 16 a, .int .i64 0, .nils]))), (2, some (.row 39 shCall (.rows shCall [])))], 3, true, 104⟩
theorem plW (ops : List V) (a : List UInt8) : Weak (plS0 ops a) (plS ⟨ops, ⟨a, 0, []⟩, 0⟩) := by
 refine Weak.trans (Weak.wk (id := 0) (j := 3) (T := 39) (sh := shCall) (s' := plS1 ops a) ⟨rfl, rfl, rfl, rfl, ⟨_, _, rfl, rfl, rfl, rfl⟩, rfl, fun i h1 h2 => ?_⟩) (Weak.rows (id := 1) (j := 2) (sh := shCall) ⟨rfl, rfl, rfl, ⟨_, _, rfl, rfl, rfl, rfl⟩, fun i h1 => ?_⟩)
 ·have h2 : i ≠ 2 := h2
  have b1 : Nat.beq 0 i = false := Bool.eq_false_iff.2 fun e => h1 (Nat.eq_of_beq_eq_true e).symm
  have b2 : Nat.beq 2 i = false := Bool.eq_false_iff.2 fun e => h2 (Nat.eq_of_beq_eq_true e).symm
  simp only [plS1, plS0, Am.lookH, b1, b2, cond_false]
 ·have b1 : Nat.beq 1 i = false := Bool.eq_false_iff.2 fun e => h1 (Nat.eq_of_beq_eq_true e).symm
  simp only [plS1, plS, plH, Am.lookH, b1, cond_false]
  rfl
def sh_ClientPlays : List Sh := [.barr 16, .rows (.agg [.int .i64, .barr 16, .int .i64, .int .i64, .bytes])]
theorem ClientPlays_t (a : List UInt8) (ops : List V) : callV Eclx af_ClientPlays [.barr 16 a, .rows shOp ops] =
 bif plOk ops a then (bif plB ops 0 then some (.bool true) else some (.bool true)) else none := by kernel_rfl
def sh_opone : List Sh := [.agg [.int .i64, .barr 16, .int .i64, .int .i64, .bytes]]
theorem opIn {x : V} (h : inR 140737488351232 shOp x = true) : (opOf x).d.length = 16 := by
 have h : inRs 140737488351232 sh_opone [x] = true := by
  show (inR 140737488351232 shOp x && true) = true
  rw [h]; rfl
 generalize hx : [x] = xs at h
 obtain ⟨zx1, zl1, rfl, zh1, zr1⟩ := inRs_cons h; clear h
 obtain ⟨zg1, rfl, za1⟩ := inR_agg zh1; clear zh1
 obtain ⟨zx2, zl2, rfl, zh2, zr2⟩ := inRs_cons za1; clear za1
 obtain ⟨k, rfl, hk0, hk1⟩ := inR_i64 zh2; clear zh2
 obtain ⟨zx3, zl3, rfl, zh3, zr3⟩ := inRs_cons zr2; clear zr2
 obtain ⟨d, rfl, hd⟩ := inR_barr zh3; clear zh3
 obtain ⟨zx4, zl4, rfl, zh4, zr4⟩ := inRs_cons zr3; clear zr3
 obtain ⟨n, rfl, hn0, hn1⟩ := inR_i64 zh4; clear zh4
 obtain ⟨zx5, zl5, rfl, zh5, zr5⟩ := inRs_cons zr4; clear zr4
 obtain ⟨m, rfl, hm0, hm1⟩ := inR_i64 zh5; clear zh5
 obtain ⟨zx6, zl6, rfl, zh6, zr6⟩ := inRs_cons zr5; clear zr5
 obtain ⟨b, rfl, hb⟩ := inR_bytes zh6; clear zh6
 obtain rfl := inRs_nil zr6; clear zr6
 obtain rfl := inRs_nil zr1; clear zr1
 injection hx with hx _
 subst hx
 show d.length = 16
 omega
theorem ClientPlays_v : ∀ xs, inRs 140737488351232 sh_ClientPlays xs = true → callV Eclx af_ClientPlays xs = some (.bool true) := by
 intro xs h
 obtain ⟨zx1, zl1, rfl, zh1, zr1⟩ := inRs_cons h; clear h
 obtain ⟨a, rfl, ha⟩ := inR_barr zh1; clear zh1
 obtain ⟨zx2, zl2, rfl, zh2, zr2⟩ := inRs_cons zr1; clear zr1
 obtain ⟨ops, rfl, hops, qops⟩ := inR_rows zh2; clear zh2
 obtain rfl := inRs_nil zr2; clear zr2
 have e := ClientPlays_t a ops
 rw [show plOk ops a = true from okG_t ⟨plW ops a, Int.le_refl 0, by show (0 : Int) ≤ (ops.length : Int); omega, lOk.nil, by show a.length = 16; omega, fun v hv => opIn (qops v hv)⟩] at e
 refine e.trans ?_
 cases plB ops 0 <;> rfl
end Go.Proofs.YtfhljcbbgckdiaaGreat
namespace Go.Proofs.YtfhljcbbgckdiaaGreat.clientPlays
open Go Go.ChangeShapes Go.WideShapes Go.ChangeAt Go.RowKit Go.Bas Go.Am
theorem own : ownKnob Tryz.prog.godebug = none := by kernel_rfl
theorem laidOut : laidOutB Tryz.prog = true := by kernel_rfl
set_option maxRecDepth 100000 in
set_option maxHeartbeats 4000000 in
theorem closed : joinedFacts Tryz.checked.prog 4 Tryz.f4 Rows.clientPlaysSpec Rows.clientPlaysRow = true := by
 unfold joinedFacts
 rw [fMay, fLift, fMake]
 refine (andB (andB (andB (andB (andB (andB (andB (andB (andB (andB (andB (andB (andB (andB (andB (andB (andB (andB (andB (andB (andB (andB (andB (andB (andB (andB (andB (andB (andB (andB ?_ ?_) ?_) ?_) ?_) ?_) ?_) ?_) ?_) ?_) ?_) ?_) ?_) ?_) ?_) ?_) ?_) ?_) ?_) ?_) ?_) ?_) ?_) ?_) ?_) ?_) ?_) ?_) ?_) ?_) ?_)
 all_goals as_aux_lemma => kernel_rfl
set_option maxRecDepth 100000 in
set_option maxHeartbeats 1000000 in
theorem lifted (os : Os) (started : os.Started) (H : Type) (enc : TypeId × Value → H) :
  ReturnsInHanded {} Tryz.checked os 4 .any (Rows.clientPlaysSpec.pre6 enc Tryz.prog Tryz.f4 Rows.clientPlaysRow.domain false) (Rows.clientPlaysSpec.post enc Tryz.prog Tryz.f4 false true false false) := by
 refine returnsInHanded_of_change_sized (C := Tryz.checked) own started (by kernel_rfl) Tryz.func4
  (ChangeSpec.witness6 (enc := enc) (C := Tryz.checked) false ⟨#[], (Tryz.f4.params.map (zArg Tryz.prog 8)), []⟩ 8 (by kernel_rfl) (by kernel_rfl) (by kernel_rfl) (by kernel_rfl)) ?_
 intro W base args ds gs before hval0 hW hcnd hsz0 _
 have hval : ∀ (j : Nat) t v, Tryz.f4.params[j]? = some t → args[j]? = some v → Value.okWide Tryz.prog W .any base t v := hval0
 have hsz : (DataW.weightsEach Tryz.prog (Tryz.f4.params.toList ++ Rows.clientPlaysSpec.plain.varTypes Tryz.prog) (ds ++ gs)).all (· ≤ reachBytes) = true := hsz0
 clear hsz0
 have hW' := hW
 obtain ⟨p, q, hA0, hV, rfl, hfz, hnd⟩ := hW
 have hA : DataW.TrodAll enc Tryz.prog W 0 (fun _ => true) true Tryz.f4.params.toList args.toList ds p := hA0
 obtain ⟨rfl, rfl⟩ := trodVars_none hV
 have hc := law_calls (E := Eclx) Eclx_ok af_ClientPlays_ok (D := 8) (shs := sh_ClientPlays) 140737488351232 hA (fun j t v h1 h2 => hval j t v (by simpa using h1) (by simpa using h2)) (by kernel_rfl) (by kernel_rfl) (weights_of rfl hsz) ClientPlays_v
 rw [Array.toArray_toList] at hc
 refine hc.mono fun e W' ⟨he, hb⟩ => ?_
 subst he
 exact ⟨_, rfl, law_post laidOut (par_of (by kernel_rfl)) rfl rfl Tryz.underlying4 (by have hl := trodAll_len hA; clear hc; match ds, hl with | [_, _], _ => rfl) hW' hb⟩
set_option maxRecDepth 100000 in
theorem proved : Rows.ClientPlaysSaid :=
 OpenClaim.holds_of_wide 4 Tryz.f4 rfl rfl rfl rfl rfl rfl rfl ⟨rfl, rfl, rfl, rfl, rfl⟩ rfl rfl rfl rfl rfl (by as_aux_lemma => kernel_rfl) Tryz.func4 closed
  (of_decide_eq_true (by kernel_rfl)) (by unfold Func.isWrapper; first | (rw [if_pos (by decide +kernel)]; kernel_rfl) | (rw [if_neg (by decide +kernel)]; exact ⟨rfl, rfl⟩))
  (fun os started H enc _ => lifted os started H enc)
end Go.Proofs.YtfhljcbbgckdiaaGreat.clientPlays