/- The abstract machine, eleventh part: calls by contract; slices, lengths, conversions. -/
import Derived.Test.YthbllfhaaidhjaaAmj
namespace Go.Am
open Go Go.RowKit Go.Bas
section
variable {ι : Nat → Option Cn} {O : Nat → Prop} {w0 : Zone} {w : World} {hp : Nat → Option Blk} {P : Program}

/-- what a call hands over -/
inductive OutRep (O : Nat → Prop) (w w' : World) : V → Value → Prop
  | val {v c} (h : VRep no O w' v c) : OutRep O w w' v c
  | own {T v A n k ds} (h : RowC no (fun b => O b ∨ A.map (·.block) = some b) w' n (elSh v) v ds) (ho : w'.ownsRow w.heap.size T (elSh v).size (.slice A n k) n ds) : OutRep O w w' (.ownv T v) (.slice A n k)
  | tup {T v A n k ds r cs} (h : RowC no (fun b => O b ∨ A.map (·.block) = some b) w' n (elSh v) v ds) (ho : w'.ownsRow w.heap.size T (elSh v).size (.slice A n k) n ds) (hr : VReps no (fun b => O b ∨ A.map (·.block) = some b) w' r cs) : OutRep O w w' (.tup (.ownv T v :: r)) (.tuple (.slice A n k :: cs).toArray)
/-- a function, of values: whatever world it is called in -/
def SpecV (P : Program) (f : FuncId) (vs : List V) (v : V) : Prop :=
  ∀ (O : Nat → Prop) (w : World) (cs : List Value), (∀ b, O b → b < w.heap.size) → VReps no O w vs cs →
    Calls P f cs.toArray w fun e w' => Below w.heap.size w w' ∧ ∃ c, e = .returned c ∧ OutRep O w w' v c
/-- what is known of who is called holds -/
def GOk (P : Program) (G : List (Nat × Con)) : Prop := ∀ f ps F, look G f = some (.val ps F) →
  (∀ (args : Array Value) (w : World), (callFunc f args).run P w = .ok (.enter f args) w) ∧ ∀ vs v, F vs = some (v, true) → SpecV P f vs v

theorem wp_enter {o : Oper} {a : Act} {f : FuncId} {args : Array Value} {K : Act → World → Prop} {Q : Exit → Act → World → Prop} {R : Ending → World → Prop}
    (hr : (execOp a.eval o).run P w = .ok (.enter f args) w) (hc : Calls P f args w R) (hR : ∀ e w', R e w' → ∃ c, e = .returned c ∧ K (a.put o.dst c) w') : o.wp P a w K Q := by
  unfold Oper.wp
  rw [hr, Oper.upon_enter]
  exact hc.mono fun e w' h => by obtain ⟨c, rfl, hk⟩ := hR e w' h; exact hk
theorem unpack_plain {nid : Nat} {v : V} (h1 : ∀ T c, v ≠ .ownv T c) (h2 : ∀ T c r, v ≠ .tup (.ownv T c :: r)) : unpack nid v = (v, []) := by
  unfold unpack
  split
  · exact absurd rfl (h1 _ _)
  · exact absurd rfl (h2 _ _ _)
  · rfl
theorem no_ext {ι' : Nat → Option Cn} {X Y : Nat → Prop} {w1 w2 : World} (h : Ext ι ι' X Y w1 w2) : Ext no ι' X Y w1 w2 := Ext.mk h.size (fun _ _ e => by cases e) h.same h.own
theorem updH_app (a b : List (Nat × Option Blk)) (hp : Nat → Option Blk) : updH (a ++ b) hp = updH a (updH b hp) := by
  induction a with
  | nil => rfl
  | cons x a ih => obtain ⟨i, v⟩ := x; funext id; simp only [List.cons_append, updH, ih]
theorem own_form {base : Nat} {T : TypeId} {size n c m : Nat} {A : Option Addr} {ds : List Value} (h : w.ownsRow base T size (.slice A n c) m ds) : (∃ g, A = some ⟨g, 0, none⟩) ∨ (A = none ∧ n = 0 ∧ c = 0) := by
  rcases h.2 with ⟨h1, _⟩ | ⟨g, cap, cur, e, _⟩
  · injection h1 with e1 e2 e3; exact .inr ⟨e1, e2, e3⟩
  · injection e with e1 _ _; exact .inl ⟨g, e1⟩
theorem ownsRow_base {base base' : Nat} {T : TypeId} {size : Nat} {v : Value} {m : Nat} {ds : List Value} (h : w.ownsRow base T size v m ds) (hb : base' ≤ base) : w.ownsRow base' T size v m ds := by
  refine ⟨h.1, h.2.imp id ?_⟩
  rintro ⟨g, cap, cur, e, hg, r⟩
  exact ⟨g, cap, cur, e, by omega, r⟩
/-- a call by contract -/
theorem op_call {G : List (Nat × Con)} (hG : GOk P G) (h : HSim ι O w0 hp w) {nid : Nat} (hn : ι nid = none) {f : FuncId} {vs : List V} {cs : List Value} (hv : VReps ι (Ex1 ι hp O) w vs cs) {r : Res} (hr : conR G hp nid f vs = some r) (hob : r.ob = true)
    {o : Oper} {a : Act} (ho : (execOp a.eval o).run P w = (callFunc f cs.toArray).run P w) {K : Act → World → Prop} {Q : Exit → Act → World → Prop}
    (hK : ∀ c w', Post ι O w0 hp w nid r.v r.wr w' c → K (a.put o.dst c) w') : o.wp P a w K Q := by
  unfold conR at hr
  split at hr
  · rename_i ps F hq
    split at hr
    · rename_i as hl
      split at hr
      · rename_i v ob hF
        injection hr with hr; subst hr
        simp only at hob; subst hob
        obtain ⟨hg1, hg2⟩ := hG f ps F hq
        rw [hg1] at ho
        obtain ⟨hs, hx⟩ := h.seals (idss vs)
        have hlr := lows_rep h hx vs hl (Lent.seal h _) hv
        have hO : ∀ b, Ex1 ι (updH (sealB hp (idss vs)) hp) O b → b < w.heap.size := by
          rintro b (hb | ⟨i, hm⟩)
          · exact h.lt (h.outer b hb)
          · exact (hs.fresh i b hm).2
        refine wp_enter ho (hg2 _ _ hF _ w cs hO hlr) ?_
        rintro e w' ⟨hb, c, rfl, hout⟩
        refine ⟨c, rfl, hK c w' ?_⟩
        have key : ∃ hp1, hp1 = updH (bif flatV v then [] else sealB hp (idss vs)) hp ∧ HSim ι O w0 hp1 w ∧ Ext ι ι (Ex1 ι hp O) (Ex1 ι hp1 O) w w ∧
            (∀ {x c}, VRep no (Ex1 ι (updH (sealB hp (idss vs)) hp) O) w' x c → (flatV v = true → flatV x = true) → VRep no (Ex1 ι hp1 O) w' x c) ∧
            (∀ {A : Option Addr} {n e x ds} {T : TypeId}, RowC no (fun b => Ex1 ι (updH (sealB hp (idss vs)) hp) O b ∨ A.map (·.block) = some b) w' n e x ds → (flatV v = true → flatV (.ownv T x) = true) → RowC no (fun b => Ex1 ι hp1 O b ∨ A.map (·.block) = some b) w' n e x ds) ∧
            (∀ {A : Option Addr} {x c}, VReps no (fun b => Ex1 ι (updH (sealB hp (idss vs)) hp) O b ∨ A.map (·.block) = some b) w' x c → (flatV v = true → flatVs x = true) → VReps no (fun b => Ex1 ι hp1 O b ∨ A.map (·.block) = some b) w' x c) := by
          cases hf : flatV v with
          | true => exact ⟨hp, rfl, h, Ext.refl, fun hv hx => flatV_rep _ (hx rfl) hv, fun hr hx => hr.flat (hx rfl), fun hv hx => flatVs_rep _ (hx rfl) hv⟩
          | false => exact ⟨_, rfl, hs, hx, fun hv _ => hv, fun hr _ => hr, fun hv _ => hv⟩
        obtain ⟨hp1, e1, h1, hx1, kV, kR, kVs⟩ := key
        have hup : ∀ wr, updH (wr ++ (bif flatV v then [] else sealB hp (idss vs))) hp = updH wr hp1 := fun wr => by rw [updH_app, e1]
        obtain ⟨h2, hx2⟩ := h1.pass hb
        cases hout with
        | val hvr =>
          have hpl : unpack nid v = (v, []) := unpack_plain (by rintro T c rfl; cases hvr with | one a b => cases a | agg a b => cases a) (by
            rintro T c r rfl
            obtain ⟨cs, rfl, hq⟩ := hvr.tup_inv
            cases hq with | cons a b => cases a with | one a b => cases a | agg a b => cases a)
          rw [hpl]
          refine ⟨ι, ?_, ?_, ?_, fun _ _ => rfl⟩
          · rw [hup]; exact h2
          · rw [hup]; exact hx1.trans hx2
          · rw [hup]; exact (kV hvr fun h => h).ext (no_ext (Ext.refl (w := w') (ι := ι)))
        | own hrc hor =>
          rename_i T x A n k ds
          obtain ⟨a1, a2, a3⟩ := h1.newRow (w' := w') (nid := nid) hn [] T (elSh x) x (A := A) (n := n) (c := k) (ds := ds) (h.keeps hb) (fun b hlt _ => hb.block b hlt) (fun a ha => by
            subst ha; exact .inr (ownsRow_lt hor).1) (ownsRow_base hor (Nat.zero_le _))
          have hlow : Ext no (updI ι nid (.row A n k T (elSh x))) (fun b => Ex1 ι hp1 O b ∨ A.map (·.block) = some b) (Ex1 (updI ι nid (.row A n k T (elSh x))) (updH ([].map (fun i => (i, none)) ++ [(nid, some (.row T (elSh x) x))]) hp1) O) w' w' :=
            Ext.mk (Nat.le_refl _) (fun _ _ e => by cases e) (fun _ _ _ => rfl) (fun b hb => .inl (a2 b hb))
          have hr1 := (kR hrc fun hf => hf).ext hlow
          refine ⟨updI ι nid (.row A n k T (elSh x)), ?_, ?_, ?_, fun id hid => ?_⟩
          · rw [hup]; exact a3 hr1
          · rw [hup]; exact hx1.trans a1
          · rw [hup]
            have hlen := hrc.lenC
            show VRep _ _ _ (.own nid (lenC x) (elSh x)) _
            rw [hlen]
            exact .one (.own updI_self fun h0 => (own_form hor).elim id fun e => absurd e.2.1 (by omega)) rfl
          · unfold updI; rw [if_neg hid]
        | tup hrc hor hvs =>
          rename_i T x A n k ds r cs
          obtain ⟨a1, a2, a3⟩ := h1.newRow (w' := w') (nid := nid) hn [] T (elSh x) x (A := A) (n := n) (c := k) (ds := ds) (h.keeps hb) (fun b hlt _ => hb.block b hlt) (fun a ha => by
            subst ha; exact .inr (ownsRow_lt hor).1) (ownsRow_base hor (Nat.zero_le _))
          have hlow : Ext no (updI ι nid (.row A n k T (elSh x))) (fun b => Ex1 ι hp1 O b ∨ A.map (·.block) = some b) (Ex1 (updI ι nid (.row A n k T (elSh x))) (updH ([].map (fun i => (i, none)) ++ [(nid, some (.row T (elSh x) x))]) hp1) O) w' w' :=
            Ext.mk (Nat.le_refl _) (fun _ _ e => by cases e) (fun _ _ _ => rfl) (fun b hb => .inl (a2 b hb))
          have hf2 : flatV (.tup (.ownv T x :: r)) = true → flatV (.ownv T x) = true ∧ flatVs r = true := by
            intro hf
            have hf' : (flatV (.ownv T x) && flatVs r) = true := hf
            exact (Bool.and_eq_true _ _).mp hf'
          have hr1 := (kR hrc fun hf => (hf2 hf).1).ext hlow
          refine ⟨updI ι nid (.row A n k T (elSh x)), ?_, ?_, ?_, fun id hid => ?_⟩
          · rw [hup]; exact a3 hr1
          · rw [hup]; exact hx1.trans a1
          · rw [hup]
            have hlen := hrc.lenC
            show VRep _ _ _ (.tup (.own nid (lenC x) (elSh x) :: r)) _
            rw [hlen]
            exact .tup (.cons (.one (.own updI_self fun h0 => (own_form hor).elim id fun e => absurd e.2.1 (by omega)) rfl) ((kVs hvs fun hf => (hf2 hf).2).ext hlow))
          · unfold updI; rw [if_neg hid]
      · cases hr
    · cases hr
  · cases hr
/-! ### slices -/
theorem bnd_spec {lo hi : Option V} {n i j : Nat} {ok : Bool} (h : bndV lo hi n = some (i, j, ok)) (hok : ok = true) : i ≤ j ∧ j ≤ n := by
  have key : ∀ {a : Int} {m : Nat}, inC a m = true → a.toNat ≤ m := by
    intro a m h; simp only [inC, Bool.and_eq_true, decide_eq_true_eq] at h; omega
  subst hok
  unfold bndV at h
  split at h
  rotate_right
  · cases h
  all_goals simp only [Option.some.injEq, Prod.mk.injEq] at h
  · omega
  · obtain ⟨rfl, rfl, h⟩ := h; exact ⟨key h, Nat.le_refl _⟩
  · obtain ⟨rfl, rfl, h⟩ := h; exact ⟨Nat.zero_le _, key h⟩
  · obtain ⟨rfl, rfl, h⟩ := h
    simp only [Bool.and_eq_true] at h
    exact ⟨key h.1, key h.2⟩
/-- how the operands stand for the bounds -/
inductive OptRep (ι : Nat → Option Cn) (X : Nat → Prop) (w : World) : Option V → Option Value → Prop
  | none : OptRep ι X w none none
  | some {v c} (h : VRep ι X w v c) : OptRep ι X w (some v) (some c)
theorem run_bnds {X : Nat → Prop} {lo hi : Option V} {lo' hi' : Option Value} {n c i j : Nat} (b : Bool) (hl : OptRep ι X w lo lo') (hh : OptRep ι X w hi hi') (h : bndV lo hi n = some (i, j, true)) (hc : n ≤ c) :
    (Instr.sliceBounds b n c lo' hi' none).run P w = .ok (i, j, c) w := by
  have key : ∀ {k : IntKind} {a : Int} {m : Nat} (cd : BoundsCode), inC a m = true → (Instr.sliceBound (.int k a) m cd).run P w = .ok a.toNat w := by
    intro k a m cd h
    simp only [inC, Bool.and_eq_true, decide_eq_true_eq] at h
    simp [Instr.sliceBound, asIntOf, h.1, h.2]
  have up : ∀ {a : Int} {m m' : Nat}, inC a m = true → m ≤ m' → inC a m' = true := by
    intro a m m' h hm; simp only [inC, Bool.and_eq_true, decide_eq_true_eq] at h ⊢; omega
  unfold bndV at h
  split at h
  rotate_right
  · cases h
  all_goals simp only [Option.some.injEq, Prod.mk.injEq] at h
  · obtain ⟨rfl, rfl, _⟩ := h; cases hl; cases hh; simp [Instr.sliceBounds]
  · obtain ⟨rfl, rfl, h⟩ := h; cases hl with | some hl => cases hh; obtain ⟨rfl, _⟩ := hl.int_inv; simp [Instr.sliceBounds, key _ h]
  · obtain ⟨rfl, rfl, h⟩ := h; cases hl; cases hh with | some hh => obtain ⟨rfl, _⟩ := hh.int_inv; simp [Instr.sliceBounds, key _ (up h hc)]
  · obtain ⟨rfl, rfl, h⟩ := h
    simp only [Bool.and_eq_true] at h
    cases hl with
    | some hl =>
      cases hh with
      | some hh =>
        obtain ⟨rfl, _⟩ := hl.int_inv; obtain ⟨rfl, _⟩ := hh.int_inv
        simp [Instr.sliceBounds, key _ (up h.2 hc), key _ h.1]
theorem run_sliceG {X : Nat → Prop} {t : TypeId} {sh : Sh} {lo hi : Option V} {lo' hi' : Option Value} {A : Option Addr} {n c i j : Nat} (ho : ixOkS P t sh = true) (hl : OptRep ι X w lo lo') (hh : OptRep ι X w hi hi') (h : bndV lo hi n = some (i, j, true)) (hc : n ≤ c) :
    (Instr.sliceAt t (.slice A n c) lo' hi' none).run P w = .ok (.slice (if c = i then A else A.map (·.add (i * sh.size))) (j - i) (c - i)) w := by
  obtain ⟨e, hu, hz, _⟩ := ixOkS_spec ho
  cases hq : P.info? e with
  | none => simp [hq] at hz
  | some inf =>
    simp [hq] at hz
    simp [Instr.sliceAt, Instr.slice, run_underlying hu, run_bnds true hl hh h hc, sizeOf, typeInfo, hq, hz]
theorem CReps.split {X : Nat → Prop} {e : Sh} {l1 l2 : List V} {ds : List Value} (h : CReps ι X w (l1 ++ l2) ds) (he : ∀ x ∈ l1, isR e x = true) : ∃ d1 d2, ds = d1 ++ d2 ∧ d1.length = l1.length * e.size ∧ CReps ι X w l1 d1 ∧ CReps ι X w l2 d2 := by
  induction l1 generalizing ds with
  | nil => exact ⟨[], ds, rfl, by simp, .nil, h⟩
  | cons x l1 ih =>
    cases h with
    | cons p q =>
      obtain ⟨d1, d2, rfl, h1, h2, h3⟩ := ih q (fun y hy => he y (by simp [hy]))
      have := CRep.len (isR_isSh (he x (by simp))) p
      exact ⟨_ ++ d1, d2, by simp, by rw [List.length_append, this, h1, List.length_cons, Nat.add_mul, Nat.one_mul, Nat.add_comm], .cons p h2, h3⟩
theorem cutL_eq {α : Type} (l : List α) (i j : Nat) (hij : i ≤ j) : l = l.take i ++ (cutL l i j ++ l.drop j) := by
  unfold cutL
  have : l.drop i = (l.drop i).take (j - i) ++ (l.drop i).drop (j - i) := (List.take_append_drop _ _).symm
  rw [List.drop_drop, show i + (j - i) = j by omega] at this
  rw [← this, List.take_append_drop]
theorem cutL_len {α : Type} {l : List α} {i j : Nat} (hj : j ≤ l.length) : (cutL l i j).length = j - i := by simp [cutL]; omega
theorem op_slice {X : Nat → Prop} {t : TypeId} {x : V} {c : Value} {lo hi : Option V} {lo' hi' : Option Value} {r : Res} (hx : VRep ι X w x c) (hl : OptRep ι X w lo lo') (hh : OptRep ι X w hi hi') (h : sliceV P t x lo hi = some r) (hob : r.ob = true) :
    ∃ d, (Instr.sliceAt t c lo' hi' none).run P w = .ok d w ∧ VRep ι X w r.v d ∧ r.wr = [] := by
  unfold sliceV at h
  split at h
  · rename_i l
    split at h
    · rename_i i j ok hb
      obtain ⟨ho, h⟩ := ofBif h; injection h with h; subst h
      simp only at hob; subst hob
      obtain ⟨hij, hj⟩ := bnd_spec hb rfl
      obtain ⟨A, n, k, rfl, hbs, hno⟩ := hx.bytes_inv
      have hn := hbs.len; subst hn
      refine ⟨_, run_sliceG ho hl hh hb hbs.cap, ?_, rfl⟩
      have hs := hbs.sub (i := i) (j := j) (c' := k - i) hij hj (by have := hbs.cap; omega) (by have := hbs.most; omega)
      simp only [Sh.size, Nat.mul_one]
      refine .one (.bytes hs fun hne b off hA => ?_) rfl
      have hl0 : l ≠ [] := by rintro rfl; simp [cutL] at hne
      obtain ⟨b', off', rfl, _, _⟩ := hbs.rd hl0
      have : b = b' := by
        split at hA
        · injection hA with hA; injection hA with e1 _; exact e1.symm
        · simp only [Option.map_some, add_lit0] at hA; injection hA with hA; injection hA with e1 _; exact e1.symm
      subst this
      exact hno hl0 b off' rfl
    · cases h
  · rename_i e l
    split at h
    · rename_i i j ok hb
      obtain ⟨ho, h⟩ := ofBif h; injection h with h; subst h
      simp only at hob; subst hob
      obtain ⟨hij, hj⟩ := bnd_spec hb rfl
      cases hx with
      | agg _ ha => cases ha
      | one hx _ =>
        cases hx with
        | rows h1 h2 h3 h4 h5 h6 =>
          rename_i A n k ds
          subst h1
          refine ⟨_, run_sliceG ho hl hh hb h2, ?_, rfl⟩
          have hmem : ∀ y, y ∈ l.take i ∨ y ∈ cutL l i j → isR e y = true := by
            intro y hy
            refine h4 y ?_
            rcases hy with hy | hy
            · exact List.mem_of_mem_take hy
            · exact List.mem_of_mem_drop (List.mem_of_mem_take hy)
          have hsp := cutL_eq l i j hij
          rw [hsp] at h5
          obtain ⟨d1, d2, rfl, q1, q2, q3⟩ := CReps.split h5 (fun y hy => hmem y (.inl hy))
          obtain ⟨d3, d4, rfl, q4, q5, q6⟩ := CReps.split q3 (fun y hy => hmem y (.inr hy))
          have hlen : (cutL l i j).length = j - i := cutL_len hj
          refine .one (.rows (by rw [hlen]) (by omega) (by omega) (fun y hy => hmem y (.inr hy)) q5 fun hne => ?_) rfl
          have hlt : i < j := by
            rcases Nat.lt_or_ge i j with h' | h'
            · exact h'
            · exact absurd (List.eq_nil_of_length_eq_zero (by omega)) hne
          obtain ⟨b, off, rfl, e2, e3, e4⟩ := h6 (by rintro rfl; simp at hj; omega)
          refine ⟨b, off + i * e.size, ?_, e2, e3, fun m u hm => ?_⟩
          · rw [if_neg (by omega)]; simp [add_lit0]
          · have hti : (l.take i).length = i := by simp; omega
            rw [hti] at q1
            rw [Nat.add_assoc, ← q1]
            exact e4 _ _ (split_get hm)
    · cases h
  · rename_i l
    split at h
    · rename_i i j ok hb hu
      injection h with h; subst h
      simp only at hob; subst hob
      obtain ⟨hij, hj⟩ := bnd_spec hb rfl
      cases hx.str_inv
      refine ⟨.string ⟨(cutL l i j).toArray⟩, ?_, VRep.s, rfl⟩
      have hsz : (⟨l.toArray⟩ : ByteArray).size = l.length := sb_sz l
      have hr := run_bnds (P := P) false hl hh hb (Nat.le_refl _)
      have he : (⟨l.toArray⟩ : ByteArray).extract i j = ⟨(cutL l i j).toArray⟩ := ByteArray.extract_mk l i j
      simp [Instr.sliceAt, Instr.slice, run_underlying hu, hsz, hr, he]
    · cases h
  · cases h

/-! ### lengths, least, greatest, conversions -/
theorem op_len {X : Nat → Prop} {t ty : TypeId} {x : V} {c : Value} {n : Nat} (hx : VRep ι X w x c) (h : lenV x = some n) (hl : lenOk P t x = true) :
    (Builtin.len_ #[t] ty #[c]).run P w = .ok (.int .i64 n) w := by
  unfold lenOk at hl
  split at hl
  · rename_i e l hu
    obtain ⟨A, m, k, rfl, hb, _⟩ := hx.bytes_inv
    injection h with h; have := hb.len; subst h; subst this
    simp [Builtin.len_, run_underlying hu, goInt]
  · rename_i e s l hu
    injection h with h; subst h
    cases hx with
    | agg _ ha => cases ha
    | one hx _ => cases hx with | rows h1 _ _ _ _ _ => subst h1; simp [Builtin.len_, run_underlying hu, goInt]
  · rename_i e id m s hu
    injection h with h; subst h
    obtain ⟨A, k, T, rfl, _⟩ := hx.own_inv
    simp [Builtin.len_, run_underlying hu, goInt]
  · rename_i e hu
    injection h with h; subst h
    cases hx.nils_inv
    simp [Builtin.len_, run_underlying hu, goInt]
  · rename_i l hu
    injection h with h; subst h
    cases hx.str_inv
    have hsz : (⟨l.toArray⟩ : ByteArray).size = l.length := sb_sz l
    simp [Builtin.len_, run_underlying hu, goInt, hsz]
  · rename_i m e n' l hu
    injection h with h; subst h
    have := Nat.eq_of_beq_eq_true hl; subst this
    obtain ⟨cs, rfl, _⟩ := hx.agg_inv rfl
    simp [Builtin.len_, run_underlying hu, goInt]
  · rename_i m e s n' l hu
    injection h with h; subst h
    have := Nat.eq_of_beq_eq_true hl; subst this
    obtain ⟨cs, rfl, _⟩ := hx.agg_inv rfl
    simp [Builtin.len_, run_underlying hu, goInt]
  · cases hl
end
end Go.Am
