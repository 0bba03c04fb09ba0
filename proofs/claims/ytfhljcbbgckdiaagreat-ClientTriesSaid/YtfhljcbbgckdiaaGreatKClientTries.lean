/- ClientTries: for every input the law returns true, and what came in reads as before. No condition of its own. -/
import Derived.Test.YtfhljcbbgckdiaaGreatGcs
import Derived.Test.YtfhljcbbgckdiaaGreatGf
import Derived.Test.YtfhljcbbgckdiaaGreatGd
set_option linter.all false
namespace Go.Proofs.YtfhljcbbgckdiaaGreat
open Go Go.Am Go.RowKit Go.Bas
set_option maxRecDepth 100000
/-! ### a call that nobody answers, after k ticks -/
def trA (k : Nat) : Int := if k < 1 then 0 else if k < 3 then 1 else if k < 7 then 2 else 3
def trW (k : Nat) : Int := if k < 1 then 0 else if k < 3 then 1 else if k < 7 then 3 else 7
def trC (c : Cal) (k : Nat) : Cal := { c with st := if k < 15 then 1 else 5, ag := trA k, si := trW k }
def trF (c : Cal) : List V := [.bytes (sgF c c.un 2 [])]
def trO (c : Cal) (k : Nat) : List V := if k = 0 ∨ k = 2 ∨ k = 6 then trF c else []
theorem tr_tk {c : Cal} (h : c.un ≠ c.se) {k : Nat} (hk : k < 20) : tckF k [(trC c k).v] = ⟨((k + 1 : Nat) : Int), [(trC c (k + 1)).v], 0, trO c k, 0⟩ := by
  have e : tckF k [(trC c k).v] = match tk1 (trC c k) (IntKind.i64.wrap ((k : Int) + 1)) with
    | none => ⟨IntKind.i64.wrap ((k : Int) + 1), [(trC c k).v], 0, [], 0⟩
    | some (c', o) => ⟨IntKind.i64.wrap ((k : Int) + 1), [c'.v], 0, o, 0⟩ := by
    unfold tckF tikF
    show (⟨_, (tkN _ 1 _ 0 []).1, 0, (tkN _ 1 _ 0 []).2, 0⟩ : OpR) = _
    rw [tkN, show atC [(trC c k).v] 0 = trC c k from rfl]
    cases tk1 (trC c k) (IntKind.i64.wrap ((k : Int) + 1)) with
    | none => rfl
    | some co => obtain ⟨c', o⟩ := co; rfl
  rw [e]
  have h3 : (agC (trC c k) (IntKind.i64.wrap ((k : Int) + 1))).un ≠ (agC (trC c k) (IntKind.i64.wrap ((k : Int) + 1))).se := h
  have h2 : (trC c k).un ≠ (trC c k).se := h
  have : k = 0 ∨ k = 1 ∨ k = 2 ∨ k = 3 ∨ k = 4 ∨ k = 5 ∨ k = 6 ∨ k = 7 ∨ k = 8 ∨ k = 9 ∨ k = 10 ∨ k = 11 ∨ k = 12 ∨ k = 13 ∨ k = 14 ∨ k = 15 ∨ k = 16 ∨ k = 17 ∨ k = 18 ∨ k = 19 := by omega
  unfold tk1
  rw [if_neg h2]
  unfold lsF
  rw [if_neg h3]
  rcases this with rfl | rfl | rfl | rfl | rfl | rfl | rfl | rfl | rfl | rfl | rfl | rfl | rfl | rfl | rfl | rfl | rfl | rfl | rfl | rfl
  all_goals
    first | rfl | (refine Eq.trans ?_ rfl; kernel_rfl)
/-! ### the loop -/
structure TrI where
  x : CS
  f : List V
  i : Int
def trS (y : TrI) : S := ⟨[(7, cRef), (9, .own 1 y.f.length .bytes), (11, .int .i64 y.i)], coH y.x rowT .bytes y.f, 3, true, 98⟩
def trX : S := ⟨[], [], 0, true, 98⟩
def trGet (s : S) : TrI := ⟨⟨toA (aG (bkD s 0) 1), toI (aG (bkD s 0) 2), toR (bkD s 2)⟩, toR (bkD s 1), toI (lkD s 11)⟩
def trI (y : TrI) : Prop := ∃ (c : Cal) (k : Nat), cGd c ∧ c.un ≠ c.se ∧ k ≤ 20 ∧ y.x.l = [(trC c k).v] ∧ y.x.now = k ∧ y.i = k + 1 ∧ y.f = trF c
noncomputable def trG : S → Option (Bool × Tr) := gX trGet trS trI (fun _ => .leaf (.exit 0) trX)
noncomputable def af_ClientTries : AF := afOf Tryz.prog Tryz.f3 [.sum [7, 9, 11] [] trG]
noncomputable def GEclw : List (Nat × Con) := [(7, .val [.barr 16] cClNew), (9, .val [] cTrue40)]
theorem GEclw_ok : GOk Tryz.prog GEclw := .cons (enters_of Tryz.func7 (by kernel_rfl) rfl) clNew_con <| .cons (enters_of Tryz.func9 (by kernel_rfl) rfl) clLives40_con <| .nil
noncomputable def IEclw : List (Nat × AF) := []
theorem IEclw_ok : IOk Tryz.prog IEclw := .nil
noncomputable def CEclw : List (Nat × (List Nat × (S → Option (Bool × Tr)))) := [(8, (vs_clConn, rf_clConn)), (10, (vs_clTick, rf_clTick)), (11, (vs_clCalls, rf_clCalls))]
theorem CEclw_ok : COk Tryz.prog CEclw := .cons (enters_of Tryz.func8 (by kernel_rfl) rfl) clConn_ref <| .cons (enters_of Tryz.func10 (by kernel_rfl) rfl) clTick_ref <| .cons (enters_of Tryz.func11 (by kernel_rfl) rfl) clCalls_ref <| .nil
noncomputable def XEclw : List (Nat × (List Sh × (List V → PT))) := []
theorem XEclw_ok : XOk Tryz.prog XEclw := .nil
noncomputable def Eclw : Env := ⟨Tryz.prog, GEclw, IEclw, CEclw, XEclw, false⟩
theorem Eclw_ok : EnvOk Eclw := ⟨by kernel_rfl, GEclw_ok, IEclw_ok, CEclw_ok, XEclw_ok⟩
noncomputable def trBC : AC := (af_ClientTries.ac.sums.headD (.skip, [], [], fun _ => none)).1
def trR (b : Bool) : S := ⟨[(6, .bool b)], [], 0, true, 98⟩
def trQ {α : Type} (b : Bool) (r : Option α) : Option α := bif b then r else none
def trL (i : Int) (l : List V) (o : Bool) (nx : Option (Ex × S)) : Option (Ex × S) := trQ (andT o (Am.inB 0 l.length) && true) (bif !(((atC l 0).st == 5) == decide (i ≥ 15)) then some (.ret, trR false) else nx)
/-- what a tick sent is looked at -/
def trK (sn : Bool) (out f l : List V) (i : Int) (nx : Option (Ex × S)) : Option (Ex × S) :=
  bif !(sn == ((out.length : Int) == 1)) then some (.ret, trR false)
  else bif (out.length : Int) == 1 then
    bif !(toL (out.getD 0 .undef) == toL (f.getD 0 .undef)) then trQ (andT (andT true (Am.inB 0 out.length)) (Am.inB 0 f.length) && true) (some (.ret, trR false))
    else bif decide ((out.length : Int) > 1) then trQ (andT (andT true (Am.inB 0 out.length)) (Am.inB 0 f.length) && true) (some (.ret, trR false))
    else bif (l.length : Int) != 1 then trQ (andT (andT true (Am.inB 0 out.length)) (Am.inB 0 f.length) && true) (some (.ret, trR false))
    else trL i l (andT (andT true (Am.inB 0 out.length)) (Am.inB 0 f.length)) nx
  else bif decide ((out.length : Int) > 1) then some (.ret, trR false)
  else bif (l.length : Int) != 1 then some (.ret, trR false)
  else trL i l true nx
theorem tr_b (x : CS) (f : List V) (i : Int) : aev Eclw (inlN Eclw 6) trBC (bodyF (Am.ways [7, 9, 11] [] [6]) []) (trS ⟨x, f, i⟩) =
 bif decide (i ≤ 20) then bif wOk caS (fun x => lOk x.l) x then
 bif i == 1 then (bif wOk caS (fun x => lOk x.l) (x.of (tckF x.now x.l)) then trK true (tckF x.now x.l).out f (tckF x.now x.l).l i (some (.normal, trS ⟨x.of (tckF x.now x.l), f, IntKind.i64.wrap (i + 1)⟩)) else none)
 else bif i == 3 then (bif wOk caS (fun x => lOk x.l) (x.of (tckF x.now x.l)) then trK true (tckF x.now x.l).out f (tckF x.now x.l).l i (some (.normal, trS ⟨x.of (tckF x.now x.l), f, IntKind.i64.wrap (i + 1)⟩)) else none)
 else (bif wOk caS (fun x => lOk x.l) (x.of (tckF x.now x.l)) then trK (i == 7) (tckF x.now x.l).out f (tckF x.now x.l).l i (some (.normal, trS ⟨x.of (tckF x.now x.l), f, IntKind.i64.wrap (i + 1)⟩)) else none)
 else none else some (.exit 0, trX) := by kernel_rfl
theorem trC_gd {c : Cal} (h : cGd c) (k : Nat) : cGd (trC c k) := by
  obtain ⟨h1, h2, h3, h4, h5⟩ := h
  have s1 : 1 ≤ (trC c k).st ∧ (trC c k).st ≤ 5 := by
    show (1 : Int) ≤ (if k < 15 then 1 else 5) ∧ (if k < 15 then 1 else 5 : Int) ≤ 5
    split <;> omega
  have s2 : 0 ≤ (trC c k).ag ∧ (trC c k).ag ≤ 3 := by
    show 0 ≤ trA k ∧ trA k ≤ 3
    unfold trA
    repeat' split
    all_goals omega
  exact ⟨h1, s1, s2, h4, h5⟩
theorem trC_lOk {c : Cal} (h : cGd c) (k : Nat) : lOk [(trC c k).v] := ⟨by simp, fun x hx => by obtain rfl := List.mem_singleton.1 hx; exact ⟨_, rfl, trC_gd h k⟩⟩
/-- what is looked at is as it should be -/
theorem trK_t {c : Cal} {k : Nat} (hk : k < 20) (nx : Option (Ex × S)) : (bif ((k : Int) + 1) == 1 then trK true (trO c k) (trF c) [(trC c (k + 1)).v] (k + 1) nx else bif ((k : Int) + 1) == 3 then trK true (trO c k) (trF c) [(trC c (k + 1)).v] (k + 1) nx else trK (((k : Int) + 1) == 7) (trO c k) (trF c) [(trC c (k + 1)).v] (k + 1) nx) = nx := by
  have hb : (toL ((trF c).getD 0 .undef) == toL ((trF c).getD 0 .undef)) = true := beq_self_eq_true _
  have : k = 0 ∨ k = 1 ∨ k = 2 ∨ k = 3 ∨ k = 4 ∨ k = 5 ∨ k = 6 ∨ k = 7 ∨ k = 8 ∨ k = 9 ∨ k = 10 ∨ k = 11 ∨ k = 12 ∨ k = 13 ∨ k = 14 ∨ k = 15 ∨ k = 16 ∨ k = 17 ∨ k = 18 ∨ k = 19 := by omega
  rcases this with rfl | rfl | rfl | rfl | rfl | rfl | rfl | rfl | rfl | rfl | rfl | rfl | rfl | rfl | rfl | rfl | rfl | rfl | rfl | rfl
  case inl | inr.inr.inl | inr.inr.inr.inr.inr.inr.inl =>
    unfold trK
    rw [show trO c _ = trF c from rfl, hb]
    rfl
  all_goals rfl
theorem tr_loop : LoopOk Tryz.prog trBC.erase [] trG := by
  refine loopX_ok Eclw_ok (d := 6) (AC.flat_ok (by kernel_rfl)) (Am.ways [7, 9, 11] [] [6]) [] trGet _ _ trI (fun y => (21 - y.i).toNat) (fun _ => rfl) ?_
  rintro ⟨⟨a, now, l⟩, f, i⟩ ⟨c, k, hc, hu, hk, h1, h2, h3, h4⟩
  simp only at h1 h2 h3 h4
  subst h1; subst h2; subst h3; subst h4
  rw [tr_b]
  by_cases hi : k < 20
  · refine .inl ⟨⟨⟨a, ((k + 1 : Nat) : Int), [(trC c (k + 1)).v]⟩, trF c, ((k + 1 : Nat) : Int) + 1⟩, ?_, ⟨c, k + 1, hc, hu, hi, rfl, rfl, rfl, rfl⟩, by dsimp only; omega, leaf_eq rfl⟩
    dsimp only [CS.of]
    rw [tr_tk hu hi]
    dsimp only
    rw [wOk_t (st := caS) (I := fun x => lOk x.l) (x := ⟨a, k, [(trC c k).v]⟩) (trC_lOk hc k), wOk_t (st := caS) (I := fun x => lOk x.l) (x := ⟨a, ((k + 1 : Nat) : Int), [(trC c (k + 1)).v]⟩) (trC_lOk hc (k + 1)), w64 (x := (k : Int) + 1 + 1) (by omega) (by omega),
      dec_t (show (k : Int) + 1 ≤ 20 by omega)]
    exact trK_t hi _
  · refine .inr ⟨.exit 0, trX, ?_, nofun, .leaf⟩
    simp (disch := omega) only [dec_t, dec_f, inB_t, inC_t, andT_t, cond_true, cond_false, Bool.and_true, Bool.true_and, w64, wu32, wu8, nble_t, nblt_t, Bool.not_true, Bool.not_false, Bool.not_not, ieq_t, ieq_f, ine_t, ine_f, true_and, and_true, andT_l]
theorem af_ClientTries_ok : AllOk Tryz.prog 3 af_ClientTries := .sums Tryz.func3 (by kernel_rfl) (by kernel_rfl) (by kernel_rfl) (by kernel_rfl) (sums_one (c := trBC) (ts := [7, 9, 11]) (by kernel_rfl) (by kernel_rfl) tr_loop)
def sh_ClientTries : List Sh := [.barr 16, .barr 16, .int .i64]
def tr0 (a d : List UInt8) (p : Int) : S := ⟨slots 0 [cRef, .barr 16 d, .int .i64 p], [(0, some (.var shCl (.agg [.bool true, .barr 16 a, .int .i64 0, .nils])))], 1, true, 3⟩
noncomputable def trN (a d : List UInt8) (p : Int) : OpR := cnR ⟨⟨a, 0, []⟩, d, p⟩
noncomputable def trOk (a d : List UInt8) (p : Int) : Bool := okG ((tr0 a d p = cnS ⟨a, 0, []⟩ d p ∨ Wk 0 3 39 shCall (tr0 a d p) (cnS ⟨a, 0, []⟩ d p)) ∧ cnI ⟨⟨a, 0, []⟩, d, p⟩)
noncomputable def trLk (y : TrI) : Bool := okG (trS y = trS y ∧ trI y)
theorem ClientTries_t (a d : List UInt8) (p : Int) : callV Eclw af_ClientTries [.barr 16 a, .barr 16 d, .int .i64 p] =
 bif trOk a d p then
 bif (trN a d p).e != 0 then (bif ((trN a d p).out.length : Int) == 0 then some (.bool true) else some (.bool false))
 else bif ((trN a d p).out.length : Int) != 1 then some (.bool false)
 else bif trLk ⟨CS.of ⟨a, 0, []⟩ (trN a d p), (trN a d p).out, 1⟩ then some (.bool true) else none
 else none := by kernel_rfl
theorem trW0 (a d : List UInt8) (p : Int) : Wk 0 3 39 shCall (tr0 a d p) (cnS ⟨a, 0, []⟩ d p) := by
  refine ⟨rfl, rfl, rfl, rfl, ⟨_, _, rfl, rfl, rfl, rfl⟩, rfl, fun i h1 h2 => ?_⟩
  have h2 : i ≠ 1 := h2
  have b1 : Nat.beq 0 i = false := Bool.eq_false_iff.2 fun e => h1 (Nat.eq_of_beq_eq_true e).symm
  have b2 : Nat.beq 1 i = false := Bool.eq_false_iff.2 fun e => h2 (Nat.eq_of_beq_eq_true e).symm
  simp only [tr0, cnS, csH, Am.lookH, b1, b2, cond_false]
theorem cnnC_un (a d : List UInt8) (now n p : Int) : (cnnC a now n d p).un ≠ (cnnC a now n d p).se := by
  show IntKind.u32.wrap _ ≠ IntKind.u32.wrap (IntKind.u32.wrap _ + 1)
  generalize kyS 1 (IntKind.u64.wrap n) a (IntKind.i64.wrap (1024 + n)) d p = x
  have hw : ∀ y : Int, IntKind.u32.wrap y = y % 4294967296 := fun y => by simp [IntKind.wrap, IntKind.signed, IntKind.bits]
  rw [hw, hw]
  omega
theorem ClientTries_v : ∀ xs, inRs 140737488351232 sh_ClientTries xs = true → callV Eclw af_ClientTries xs = some (.bool true) := by
  intro xs h
  obtain ⟨zx1, zl1, rfl, zh1, zr1⟩ := inRs_cons h; clear h
  obtain ⟨a, rfl, ha⟩ := inR_barr zh1; clear zh1
  obtain ⟨zx2, zl2, rfl, zh2, zr2⟩ := inRs_cons zr1; clear zr1
  obtain ⟨d, rfl, hd⟩ := inR_barr zh2; clear zh2
  obtain ⟨zx3, zl3, rfl, zh3, zr3⟩ := inRs_cons zr2; clear zr2
  obtain ⟨p, rfl, hp0, hp1⟩ := inR_i64 zh3; clear zh3
  obtain rfl := inRs_nil zr3; clear zr3
  have ha : a.length = 16 := by omega
  have hd : d.length = 16 := by omega
  refine (ClientTries_t a d p).trans ?_
  rw [show trOk a d p = true from okG_t ⟨.inr (trW0 a d p), lOk.nil, ha, hd⟩]
  have e : trN a d p = if p < 1 then ⟨0, [], 0, [], 2⟩ else if p > 65535 then ⟨0, [], 0, [], 2⟩ else ⟨0, [(cnnC a 0 0 d p).v], 0, lsF (cnnC a 0 0 d p), 0⟩ := rfl
  rw [e]
  by_cases c1 : p < 1
  · rw [if_pos c1]
    rfl
  by_cases c2 : p > 65535
  · rw [if_neg c1, if_pos c2]
    rfl
  rw [if_neg c1, if_neg c2]
  have hu := cnnC_un a d 0 0 p
  have hl : lsF (cnnC a 0 0 d p) = trF (cnnC a 0 0 d p) := by
    unfold lsF
    rw [if_neg hu]
    rfl
  rw [hl]
  dsimp only
  rw [show trLk ⟨CS.of ⟨a, 0, []⟩ ⟨0, [(cnnC a 0 0 d p).v], 0, trF (cnnC a 0 0 d p), 0⟩, trF (cnnC a 0 0 d p), 1⟩ = true from okG_t ⟨rfl, cnnC a 0 0 d p, 0, cnnC_gd ha hd 0 0 p, hu, Nat.zero_le _, rfl, rfl, rfl, rfl⟩]
  rfl
end Go.Proofs.YtfhljcbbgckdiaaGreat

namespace Go.Proofs.YtfhljcbbgckdiaaGreat.clientTries
open Go Go.ChangeShapes Go.WideShapes Go.ChangeAt Go.RowKit Go.Bas Go.Am

theorem own : ownKnob Tryz.prog.godebug = none := by kernel_rfl
theorem laidOut : laidOutB Tryz.prog = true := by kernel_rfl
set_option maxRecDepth 100000 in
set_option maxHeartbeats 4000000 in
theorem closed : joinedFacts Tryz.checked.prog 3 Tryz.f3 Rows.clientTriesSpec Rows.clientTriesRow = true := by
  unfold joinedFacts
  rw [fMay, fLift, fMake]
  refine (andB (andB (andB (andB (andB (andB (andB (andB (andB (andB (andB (andB (andB (andB (andB (andB (andB (andB (andB (andB (andB (andB (andB (andB (andB (andB (andB (andB (andB (andB ?_ ?_) ?_) ?_) ?_) ?_) ?_) ?_) ?_) ?_) ?_) ?_) ?_) ?_) ?_) ?_) ?_) ?_) ?_) ?_) ?_) ?_) ?_) ?_) ?_) ?_) ?_) ?_) ?_) ?_) ?_)
  all_goals as_aux_lemma => kernel_rfl
set_option maxRecDepth 100000 in
set_option maxHeartbeats 1000000 in
theorem lifted (os : Os) (started : os.Started) (H : Type) (enc : TypeId × Value → H) :
    ReturnsInHanded {} Tryz.checked os 3 .any (Rows.clientTriesSpec.pre6 enc Tryz.prog Tryz.f3 Rows.clientTriesRow.domain false) (Rows.clientTriesSpec.post enc Tryz.prog Tryz.f3 false true false false) := by
  refine returnsInHanded_of_change_sized (C := Tryz.checked) own started (by kernel_rfl) Tryz.func3
    (ChangeSpec.witness6 (enc := enc) (C := Tryz.checked) false ⟨#[], (Tryz.f3.params.map (zArg Tryz.prog 8)), []⟩ 8 (by kernel_rfl) (by kernel_rfl) (by kernel_rfl) (by kernel_rfl)) ?_
  intro W base args ds gs before hval0 hW hcnd hsz0 _
  have hval : ∀ (j : Nat) t v, Tryz.f3.params[j]? = some t → args[j]? = some v → Value.okWide Tryz.prog W .any base t v := hval0
  have hsz : (DataW.weightsEach Tryz.prog (Tryz.f3.params.toList ++ Rows.clientTriesSpec.plain.varTypes Tryz.prog) (ds ++ gs)).all (· ≤ reachBytes) = true := hsz0
  clear hsz0
  have hW' := hW
  obtain ⟨p, q, hA0, hV, rfl, hfz, hnd⟩ := hW
  have hA : DataW.TrodAll enc Tryz.prog W 0 (fun _ => true) true Tryz.f3.params.toList args.toList ds p := hA0
  obtain ⟨rfl, rfl⟩ := trodVars_none hV
  have hc := law_calls (E := Eclw) Eclw_ok af_ClientTries_ok (D := 8) (shs := sh_ClientTries) 140737488351232 hA (fun j t v h1 h2 => hval j t v (by simpa using h1) (by simpa using h2)) (by kernel_rfl) (by kernel_rfl) (weights_of rfl hsz) ClientTries_v
  rw [Array.toArray_toList] at hc
  refine hc.mono fun e W' ⟨he, hb⟩ => ?_
  subst he
  exact ⟨_, rfl, law_post laidOut (par_of (by kernel_rfl)) rfl rfl Tryz.underlying4 (by have hl := trodAll_len hA; clear hc; match ds, hl with | [_, _, _], _ => rfl) hW' hb⟩
set_option maxRecDepth 100000 in
theorem proved : Rows.ClientTriesSaid :=
  OpenClaim.holds_of_wide 3 Tryz.f3 rfl rfl rfl rfl rfl rfl rfl ⟨rfl, rfl, rfl, rfl, rfl⟩ rfl rfl rfl rfl rfl (by as_aux_lemma => kernel_rfl) Tryz.func3 closed
    (of_decide_eq_true (by kernel_rfl)) (by unfold Func.isWrapper; first | (rw [if_pos (by decide +kernel)]; kernel_rfl) | (rw [if_neg (by decide +kernel)]; exact ⟨rfl, rfl⟩))
    (fun os started H enc _ => lifted os started H enc)
end Go.Proofs.YtfhljcbbgckdiaaGreat.clientTries
