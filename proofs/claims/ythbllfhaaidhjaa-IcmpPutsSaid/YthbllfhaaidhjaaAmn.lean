/- The abstract machine, fourteenth part: one operation does what it is said to do. -/
import Derived.Test.YthbllfhaaidhjaaAmm
namespace Go.Am
open Go Go.RowKit Go.Bas
section
variable {ι : Nat → Option Cn} {O : Nat → Prop} {w0 : Zone} {w : World} {hp : Nat → Option Blk} {P : Program}
theorem VReps.nil_inv {X : Nat → Prop} {vs : List V} (h : VReps ι X w vs []) : vs = [] := by cases h; rfl
theorem VReps.to1 {X : Nat → Prop} {vs : List V} {c : Value} (h : VReps ι X w vs [c]) : ∃ v, vs = [v] ∧ VRep ι X w v c := by
  cases h with | cons a b => cases b; exact ⟨_, rfl, a⟩
theorem VReps.to2 {X : Nat → Prop} {vs : List V} {c d : Value} (h : VReps ι X w vs [c, d]) : ∃ u v, vs = [u, v] ∧ VRep ι X w u c ∧ VRep ι X w v d := by
  cases h with | cons a b => obtain ⟨v, rfl, hv⟩ := b.to1; exact ⟨_, _, rfl, a, hv⟩
theorem VReps.to3 {X : Nat → Prop} {vs : List V} {c d e : Value} (h : VReps ι X w vs [c, d, e]) : ∃ u v x, vs = [u, v, x] ∧ VRep ι X w u c ∧ VRep ι X w v d ∧ VRep ι X w x e := by
  cases h with | cons a b => obtain ⟨v, x, rfl, hv, hx⟩ := b.to2; exact ⟨_, _, _, rfl, a, hv, hx⟩
theorem prep_zip {X : Nat → Prop} {a : Act} : ∀ (ps : List (Nat × Operand)) {vs : List V}, VReps ι X w vs (ps.map fun p => a.eval p.2) → PRep ι X w (zipP ps vs) (ps.map fun p => (p.1, a.eval p.2))
  | [], vs, h => by cases h; exact .nil
  | (j, x) :: ps, vs, h => by
    cases h with
    | cons p q => exact .cons p (prep_zip ps q)
theorem zipP_zip : ∀ (ps : List (Nat × Operand)) (xs : List V), zipP ps xs = (ps.map (·.1)).zip xs
  | [], xs => by simp [zipP]
  | (j, x) :: ps, [] => by simp [zipP]
  | (j, x) :: ps, v :: xs => by simp [zipP, zipP_zip ps xs]
theorem act_ok {G : List (Nat × Con)} (hG : GOk P G) (h : HSim ι O w0 hp w) {nid : Nat} (hn : ι nid = none) {o : Oper} {a : Act} {vs : List V} (hv : VReps ι (Ex1 ι hp O) w vs ((opnds o).map a.eval)) {r : Res} (ha : act P G o vs hp nid = some r) (hob : r.ob = true)
    {K : Act → World → Prop} {Q : Exit → Act → World → Prop} (hK : ∀ c w', Post ι O w0 hp w nid r.v r.wr w' c → K (a.put o.dst c) w') : o.wp P a w K Q := by
  obtain ⟨dst, op, type, pos, aft, guard⟩ := o
  have fin : ∀ {c w'}, (execOp a.eval ⟨dst, op, type, pos, aft, guard⟩).run P w = .ok (.value c) w' → Post ι O w0 hp w nid r.v r.wr w' c → Oper.wp P ⟨dst, op, type, pos, aft, guard⟩ a w K Q := fun h1 h2 => wp_run h1 (hK _ _ h2)
  have pur : ∀ {c}, (execOp a.eval ⟨dst, op, type, pos, aft, guard⟩).run P w = .ok (.value c) w → VRep ι (Ex1 ι hp O) w r.v c → r.wr = [] → Oper.wp P ⟨dst, op, type, pos, aft, guard⟩ a w K Q := fun h1 h2 h3 => fin h1 (by rw [h3]; exact Post.pure h h2)
  cases op with
  | move x =>
    obtain ⟨v, rfl, p⟩ := VReps.to1 (c := a.eval x) hv
    injection ha with ha; subst ha
    exact pur (by simp [execOp]) p rfl
  | assign x =>
    obtain ⟨v, rfl, p⟩ := VReps.to1 (c := a.eval x) hv
    injection ha with ha; subst ha
    exact pur (by simp [execOp]) p rfl
  | pick c x y =>
    obtain ⟨u, v, z, rfl, p, q, s⟩ := VReps.to3 (c := a.eval c) (d := a.eval x) (e := a.eval y) hv
    cases u with
    | bool b =>
      obtain ⟨z', h1, h2⟩ := Option.map_eq_some_iff.1 ha
      subst h2
      have hb := p.bool_inv
      exact pur (c := if b then a.eval x else a.eval y) (by simp [execOp, hb, asBool]) (pick_rep q s h1) rfl
    | _ => cases ha
  | alloc t =>
    have := VReps.nil_inv (vs := vs) hv
    subst this
    simp only [act] at ha
    split at ha
    · rename_i sh hs
      obtain ⟨hz, ha⟩ := ofBif ha; injection ha with ha; subst ha
      obtain ⟨c, w', h1, h2⟩ := op_alloc h hn hz
      exact fin (by simp [execOp, h1]) h2
    · cases ha
  | box t x =>
    obtain ⟨v, rfl, p⟩ := VReps.to1 (c := a.eval x) hv
    simp only [act] at ha
    split at ha
    · rename_i sh hs
      obtain ⟨hz, ha⟩ := ofBif ha; injection ha with ha; subst ha
      obtain ⟨c, w', h1, h2⟩ := op_box (P := P) (t := t) h hn p hz
      exact fin (by simp [execOp, h1]) h2
    · cases ha
  | build t parts =>
    have hv' : VReps ι (Ex1 ι hp O) w vs (parts.toList.map fun p => a.eval p.2) := by simpa [opnds, Op.operands, Function.comp_def] using hv
    simp only [act] at ha
    split at ha
    · rename_i sh hs
      obtain ⟨hz, ha⟩ := ofBif ha
      simp only [Bool.and_eq_true] at hz
      split at ha
      · rename_i v hb
        injection ha with ha; subst ha
        obtain ⟨d, h1, h2⟩ := op_build (cs := parts.map fun p => (p.1, a.eval p.2)) hz.1 hz.2 (by simpa using prep_zip parts.toList hv') hb
        exact pur (by simp [execOp, h1]) h2 rfl
      · cases ha
    · cases ha
  | buildSlice t n parts =>
    have hv' : VReps ι (Ex1 ι hp O) w vs (parts.toList.map fun p => a.eval p.2) := by simpa [opnds, Op.operands, Function.comp_def] using hv
    simp only [act] at ha
    split at ha
    · split at ha
      · rename_i T b l he hb
        obtain ⟨hz, ha⟩ := ofBif ha; injection ha with ha; subst ha
        simp only [Bool.and_eq_true] at hz
        obtain ⟨c, w', h1, h2⟩ := op_buildB (cs := parts.map fun p => (p.1, a.eval p.2)) h hn he hz.1 (Nat.le_of_ble_eq_true hz.2) (by simpa using prep_zip parts.toList hv') hb
        exact fin (by simp [execOp, h1]) h2
      · cases ha
    · rename_i e hs
      split at ha
      · rename_i T b xs he hl
        split at ha
        · rename_i l hb
          obtain ⟨hz, ha⟩ := ofBif ha; injection ha with ha; subst ha
          simp only [Bool.and_eq_true] at hz
          rw [zipP_zip] at hb
          obtain ⟨c, w', h1, h2⟩ := op_buildR (cs := parts.map fun p => (p.1, a.eval p.2)) h hn he hz.1.1 hz.1.2 (Nat.le_of_ble_eq_true hz.2) (by simpa [Function.comp_def] using hv') (by simp [Function.comp_def]) hl hb
          exact fin (by simp [execOp, h1]) h2
        · cases ha
      · cases ha
    · cases ha
  | load t x =>
    obtain ⟨v, rfl, p⟩ := VReps.to1 (c := a.eval x) hv
    simp only [act] at ha
    split at ha
    · rename_i id q off sh
      split at ha
      · rename_i k hk
        split at ha
        · rename_i u hg
          obtain ⟨hl, ha⟩ := ofBif ha; injection ha with ha; subst ha
          obtain ⟨d, h1, h2⟩ := op_load h p (.inl ⟨id, q, off, sh, k, rfl, hk, hg, hl⟩)
          exact pur (by simp [execOp, h1]) h2 rfl
        · cases ha
      · cases ha
    · rename_i sh u
      obtain ⟨hl, ha⟩ := ofBif ha; injection ha with ha; subst ha
      obtain ⟨d, h1, h2⟩ := op_load h p (.inr ⟨sh, rfl, hl⟩)
      exact pur (by simp [execOp, h1]) h2 rfl
    · cases ha
  | store t x y =>
    obtain ⟨u, v, rfl, p, q⟩ := VReps.to2 (c := a.eval x) (d := a.eval y) hv
    have fin' : ∀ {w'}, (Instr.storeAt t (a.eval x) (a.eval y)).run P w = .ok () w' → Post ι O w0 hp w nid r.v r.wr w' Go.undef → Oper.wp P ⟨dst, .store t x y, type, pos, aft, guard⟩ a w K Q := by
      intro w' h1 h2
      refine Does.wp (c := Go.undef) (.inr ⟨?_, rfl⟩) (hK _ _ h2)
      simp [execOp, h1]
    simp only [act] at ha
    split at ha
    · rename_i id pp off sh
      split at ha
      · rename_i s v0 hk
        split at ha
        · rename_i v' hs
          obtain ⟨hl, ha⟩ := ofBif ha; injection ha with ha; subst ha
          simp only [Bool.and_eq_true] at hl
          obtain ⟨x', hg⟩ := setP_get pp hs
          obtain ⟨w', h1, h2⟩ := op_store_var (P := P) (t := t) h hk p q hs hg hl.1 hl.2
          exact fin' h1 (h2 nid)
        · cases ha
      · rename_i T s v0 hk
        split at ha
        · rename_i z hz
          split at ha
          · rename_i v' hs
            obtain ⟨hl, ha⟩ := ofBif ha; injection ha with ha; subst ha
            simp only [Bool.and_eq_true, Bool.not_eq_true'] at hl
            obtain ⟨w', h1, h2⟩ := op_store_row (P := P) (t := t) h hk p q hz hs hl.1.1 hl.1.2 hl.2
            exact fin' h1 (h2 nid)
          · cases ha
        · cases ha
      · cases ha
    · cases ha
  | nilCheck x =>
    obtain ⟨v, rfl, p⟩ := VReps.to1 (c := a.eval x) hv
    simp only [act] at ha
    split at ha
    · injection ha with ha; subst ha
      obtain ⟨g, hc, _⟩ := p.ref_inv
      exact pur (c := a.eval x) (by simp [execOp, hc]) p rfl
    · injection ha with ha; subst ha
      obtain ⟨b, off, ds, hc, _⟩ := p.vref_inv
      exact pur (c := a.eval x) (by simp [execOp, hc]) p rfl
    · injection ha with ha; subst ha
      obtain ⟨as, bs, hc, _⟩ := p.fn_inv
      exact pur (c := a.eval x) (by simp [execOp, hc]) p rfl
    · cases ha
  | binOp op t x y yt =>
    obtain ⟨u, v, rfl, p, q⟩ := VReps.to2 (c := a.eval x) (d := a.eval y) hv
    obtain ⟨e, h1, h2, h3⟩ := run_binV p q (r := r) ha hob x y
    refine pur (c := e) ?_ h2 h3
    have hx : execOp a.eval ⟨dst, .binOp op t x y yt, type, pos, aft, guard⟩ = (do pure (Next.value (← (do eqGuard op t x y (a.eval x) (a.eval y); binOp op t (a.eval x) (a.eval y))))) := rfl
    rw [hx, Sem.run_bind, h1]
    rfl
  | unOp op t x =>
    obtain ⟨v, rfl, p⟩ := VReps.to1 (c := a.eval x) hv
    obtain ⟨e, h1, h2, h3, _⟩ := run_unV (P := P) p (r := r) ha
    exact pur (by simp [execOp, h1]) h2 h3
  | convert s d x =>
    obtain ⟨v, rfl, p⟩ := VReps.to1 (c := a.eval x) hv
    simp only [act] at ha
    split at ha
    · rename_i u hc
      injection ha with ha; subst ha
      obtain ⟨e, h1, h2⟩ := op_conv h p hc
      exact pur (by simp [execOp, h1]) h2 rfl
    · cases ha
  | makeFunc fn first caps =>
    have hv' : VReps ι (Ex1 ι hp O) w vs ((first ++ caps).toList.map a.eval) := by simpa [opnds, Op.operands] using hv
    cases fn with
    | func f =>
      simp only [act, pureR] at ha
      injection ha with ha; subst ha
      have e1 : ((first ++ caps).toList.map a.eval).take first.size = first.toList.map a.eval := by simp
      have e2 : ((first ++ caps).toList.map a.eval).drop first.size = caps.toList.map a.eval := by simp
      refine pur (c := .func (.func f) (first.map a.eval) (caps.map a.eval)) (by simp [execOp, Instr.makeFunc]) ?_ rfl
      have t1 := hv'.take first.size
      have t2 := hv'.drop first.size
      rw [e1] at t1
      rw [e2] at t2
      have := VRep.one (O := Ex1 ι hp O) (w := w) (.fn (f := f) t1 t2) rfl
      rw [show first.map a.eval = (first.toList.map a.eval).toArray from Array.ext' (by simp), show caps.map a.eval = (caps.toList.map a.eval).toArray from Array.ext' (by simp)]
      exact this
    | _ => cases ha
  | makeSlice t x y =>
    obtain ⟨u, v, rfl, p, q⟩ := VReps.to2 (c := a.eval x) (d := a.eval y) hv
    cases u with
    | int k n =>
      cases v with
      | int k' m =>
        have hk : k = .i64 ∧ k' = .i64 := by cases k <;> cases k' <;> first | exact ⟨rfl, rfl⟩ | cases ha
        obtain ⟨rfl, rfl⟩ := hk
        obtain ⟨hx, _⟩ := p.int_inv; obtain ⟨hy, _⟩ := q.int_inv
        simp only [act] at ha
        split at ha
        · split at ha
          · rename_i T b he
            obtain ⟨hz, ha⟩ := ofBif ha; injection ha with ha; subst ha
            simp only [Bool.and_eq_true, beq_iff_eq, inC, decide_eq_true_eq] at hob
            obtain ⟨⟨rfl, h0, h1⟩, h2⟩ := hob
            obtain ⟨c, w', r1, r2⟩ := op_make h hn he hz h0 (by omega) (Nat.le_of_ble_eq_true h2)
            exact fin (by simp [execOp, hx, hy, r1]) r2
          · cases ha
        · cases ha
      | _ => cases k <;> cases ha
    | _ => cases ha
  | slice t x lo hi mx =>
    cases mx with
    | some m => cases vs <;> cases ha
    | none =>
      cases lo with
      | none =>
        cases hi with
        | none =>
          obtain ⟨v, rfl, p⟩ := VReps.to1 (c := a.eval x) hv
          obtain ⟨d, h1, h2, h3⟩ := op_slice p .none .none (r := r) ha hob
          exact pur (by simp [execOp, h1]) h2 h3
        | some hi =>
          obtain ⟨v, v1, rfl, p, q⟩ := VReps.to2 (c := a.eval x) (d := a.eval hi) hv
          obtain ⟨d, h1, h2, h3⟩ := op_slice p .none (.some q) (r := r) ha hob
          exact pur (by simp [execOp, h1]) h2 h3
      | some lo =>
        cases hi with
        | none =>
          obtain ⟨v, v1, rfl, p, q⟩ := VReps.to2 (c := a.eval x) (d := a.eval lo) hv
          obtain ⟨d, h1, h2, h3⟩ := op_slice p (.some q) .none (r := r) ha hob
          exact pur (by simp [execOp, h1]) h2 h3
        | some hi =>
          obtain ⟨v, v1, v2, rfl, p, q, s⟩ := VReps.to3 (c := a.eval x) (d := a.eval lo) (e := a.eval hi) hv
          obtain ⟨d, h1, h2, h3⟩ := op_slice p (.some q) (.some s) (r := r) ha hob
          exact pur (by simp [execOp, h1]) h2 h3
  | fieldAddr t x j =>
    obtain ⟨v, rfl, p⟩ := VReps.to1 (c := a.eval x) hv
    simp only [act] at ha
    split at ha
    · split at ha
      · rename_i s hj
        obtain ⟨ho, ha⟩ := ofBif ha; injection ha with ha; subst ha
        obtain ⟨d, h1, h2⟩ := op_fieldAddr_ref p hj ho
        exact pur (by simp [execOp, h1]) h2 rfl
      · cases ha
    · split at ha
      · rename_i s u hj hu
        obtain ⟨ho, ha⟩ := ofBif ha; injection ha with ha; subst ha
        obtain ⟨d, h1, h2⟩ := op_fieldAddr_vref p hj hu ho
        exact pur (by simp [execOp, h1]) h2 rfl
      · cases ha
    · cases ha
  | field t x j =>
    obtain ⟨v, rfl, p⟩ := VReps.to1 (c := a.eval x) hv
    cases v with
    | agg l =>
      simp only [act] at ha
      split at ha
      · split at ha
        · rename_i s u hj hu
          obtain ⟨ho, ha⟩ := ofBif ha; injection ha with ha; subst ha
          simp only [Bool.and_eq_true] at ho
          obtain ⟨d, h1, h2⟩ := op_field p hj hu ho.1.1 ho.1.2 ho.2
          exact pur (by simp [execOp, h1]) h2 rfl
        · cases ha
      · cases ha
    | _ => cases ha
  | indexAddr t x i =>
    obtain ⟨u, v, rfl, p, q⟩ := VReps.to2 (c := a.eval x) (d := a.eval i) hv
    cases v with
    | int k n =>
      obtain ⟨hi, _⟩ := q.int_inv
      obtain ⟨d, h1, h2, h3⟩ := op_index (k := k) p (r := r) ha hob
      exact pur (by simp [execOp, hi, h1]) h2 h3
    | _ => cases ha
  | index t x i =>
    obtain ⟨u, v, rfl, p, q⟩ := VReps.to2 (c := a.eval x) (d := a.eval i) hv
    cases v with
    | int k n =>
      obtain ⟨hi, _⟩ := q.int_inv
      obtain ⟨d, h1, h2, h3⟩ := op_idx (k := k) p (r := r) ha hob
      exact pur (by simp [execOp, hi, h1]) h2 h3
    | _ => cases ha
  | extract x j =>
    obtain ⟨v, rfl, p⟩ := VReps.to1 (c := a.eval x) hv
    cases v with
    | tup l =>
      simp only [act] at ha
      split at ha
      · rename_i u hj
        injection ha with ha; subst ha
        obtain ⟨cs, hc, hq⟩ := p.tup_inv
        obtain ⟨c, h1, h2⟩ := hq.nth hj
        exact pur (c := c) (by simp [execOp, hc, Instr.extract, h1]) h2 rfl
      · cases ha
    | _ => cases ha
  | call c =>
    obtain ⟨cal, args, ats⟩ := c
    cases cal with
    | invoke x m => cases vs <;> cases ha
    | builtin b =>
      have hv' : VReps ι (Ex1 ι hp O) w vs (args.toList.map a.eval) := hv
      have ha' : bltR P b ats.toList vs hp nid = some r := by cases vs <;> exact ha
      clear ha hv
      have hex : ∃ cn, (execOp a.eval ⟨dst, .call ⟨.builtin b, args, ats⟩, type, pos, aft, guard⟩) = builtin b ats type cn (args.map a.eval) := ⟨_, by simp [execOp, resolve, invoke]; rfl⟩
      obtain ⟨cn, hex⟩ := hex
      have go : ∀ {s : Sem Value} {c w'}, builtin b ats type cn (args.map a.eval) = (do pure (Next.value (← s))) → s.run P w = .ok c w' → (execOp a.eval ⟨dst, .call ⟨.builtin b, args, ats⟩, type, pos, aft, guard⟩).run P w = .ok (.value c) w' := by
        intro s c w' h1 h2
        rw [hex, h1, Sem.run_bind, h2]; rfl
      have e : args.map a.eval = (args.toList.map a.eval).toArray := Array.ext' (by simp)
      have e2 : ats = ats.toList.toArray := by simp
      generalize args.toList.map a.eval = al at hv' e
      generalize ats.toList = tl at ha' e2
      subst e2
      unfold bltR at ha'
      split at ha'
      · rename_i t x
        obtain ⟨c, rfl, p⟩ := hv'.one_inv
        split at ha'
        · rename_i n hl
          obtain ⟨ho, ha⟩ := ofBif ha'; injection ha with ha; subst ha
          exact pur (go (s := Builtin.len_ #[t] type (args.map a.eval)) rfl (by rw [e]; exact op_len p hl ho)) (VRep.i (by intro h; cases h)) rfl
        · cases ha'
      · rename_i ts k x k' y
        obtain ⟨c, d, rfl, p, q⟩ := hv'.two_inv
        obtain ⟨hk, ha⟩ := ofBif ha'
        obtain rfl := of_decide_eq_true hk
        injection ha with ha; subst ha
        obtain ⟨r1, r2⟩ := op_min (P := P) (ts := tl.toArray) (ty := type) p q
        exact pur (go (s := Builtin.min_ tl.toArray type (args.map a.eval)) rfl (by rw [e]; exact r1)) r2 rfl
      · rename_i ts k x k' y
        obtain ⟨c, d, rfl, p, q⟩ := hv'.two_inv
        obtain ⟨hk, ha⟩ := ofBif ha'
        obtain rfl := of_decide_eq_true hk
        injection ha with ha; subst ha
        obtain ⟨r1, r2⟩ := op_max (P := P) (ts := tl.toArray) (ty := type) p q
        exact pur (go (s := Builtin.max_ tl.toArray type (args.map a.eval)) rfl (by rw [e]; exact r1)) r2 rfl
      · rename_i t t' x y
        obtain ⟨c, d, rfl, p, q⟩ := hv'.two_inv
        split at ha'
        · rename_i z hz
          split at ha'
          · rename_i T by' he
            obtain ⟨ho, ha⟩ := ofBif ha'; injection ha with ha; subst ha
            simp only [Bool.and_eq_true] at ho
            have htt := Nat.eq_of_beq_eq_true ho.1.1
            subst htt
            obtain ⟨e', w', r1, r2⟩ := op_append (ty := type) h hn p q hz he ho.1.2 ho.2 (Nat.le_of_ble_eq_true hob)
            exact fin (go (s := Builtin.append_ #[t, t] type (args.map a.eval)) rfl (by rw [e]; exact r1)) r2
          · cases ha'
        · cases ha'
      · cases ha'
    | value f =>
      cases f with
      | func f =>
        have hv' : VReps ι (Ex1 ι hp O) w vs (args.toList.map a.eval) := hv
        have ha' : conR G hp nid f vs = some r := by cases vs <;> exact ha
        refine op_call hG h hn hv' ha' hob (o := ⟨dst, .call ⟨.value (.func f), args, ats⟩, type, pos, aft, guard⟩) ?_ hK
        have e : args.map a.eval = (args.toList.map a.eval).toArray := Array.ext' (by simp)
        simp [execOp, resolve, invoke, Act.eval, Deferred.ofValue, e]
      | _ =>
        cases vs with
        | nil => cases ha
        | cons v vs =>
          cases v with
          | fn f as bs =>
            obtain ⟨c, ds, hcs, p, q⟩ := VReps.cons_inv hv
            injection hcs with h1 h2
            obtain ⟨cas, cbs, hc, pa, pb⟩ := p.fn_inv
            rw [hc] at h1
            refine op_call hG h hn ((pa.append q).append pb) ha hob (o := ⟨dst, .call ⟨.value _, args, ats⟩, type, pos, aft, guard⟩) ?_ hK
            have e : args.map a.eval = (args.toList.map a.eval).toArray := Array.ext' (by simp)
            have h2' : args.toList.map a.eval = ds := h2
            simp [execOp, resolve, invoke, h1, Deferred.ofValue, e, h2']
          | _ => cases ha
  | _ => cases vs <;> cases ha
end
end Go.Am
