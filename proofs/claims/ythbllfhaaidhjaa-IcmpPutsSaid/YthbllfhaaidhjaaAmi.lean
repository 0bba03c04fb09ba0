/- The abstract machine, ninth part: operations that make or write memory. -/
import Derived.Test.YthbllfhaaidhjaaAmh
namespace Go.Am
open Go Go.RowKit Go.Bas
section
variable {ι : Nat → Option Cn} {O : Nat → Prop} {w0 : Zone} {w : World} {hp : Nat → Option Blk} {P : Program}

/-! ### zero values -/
theorem eqC_eq : ∀ {a b : List Value}, eqC a b = true → a = b := by
  intro a
  induction a with
  | nil => intro b h; cases b with | nil => rfl | cons y b => simp [eqC] at h
  | cons x a ih =>
    intro b h
    cases b with
    | nil => cases x <;> simp [eqC] at h
    | cons y b =>
      unfold eqC at h
      split at h <;> first | (cases h; done) | skip
      · rename_i e1 e2; cases e1
      all_goals (rename_i e1 e2; injection e1 with e1 e1'; injection e2 with e2 e2'; subst e1; subst e1'; subst e2; subst e2')
      · simp only [Bool.and_eq_true, decide_eq_true_eq] at h
        obtain ⟨⟨rfl, rfl⟩, h⟩ := h
        rw [ih h]
      · simp only [Bool.and_eq_true, beq_iff_eq] at h
        obtain ⟨rfl, h⟩ := h
        rw [ih h]
      · rename_i s1 _ s2 _
        simp only [Bool.and_eq_true, List.isEmpty_iff] at h
        obtain ⟨⟨h1, h2⟩, h⟩ := h
        rw [ih h]
        congr 2
        apply ByteArray.ext
        apply Array.ext'
        rw [h1, h2]
      all_goals rw [ih h]
mutual
theorem zeroR_rep : ∀ (s : Sh) {X : Nat → Prop}, zGood s = true → CRep ι X w (zeroR s) (zeroC s)
  | .int k, X, _ => .int fun _ => by omega
  | .bool, X, _ => .bool
  | .str, X, _ => .str
  | .bytes, X, _ => .bytes (Bs.nil _ _ _ (by omega)) fun h => absurd rfl h
  | .rows e, X, _ => .rows (ds := []) rfl (Nat.le_refl _) (by omega) (by simp) .nil fun h => absurd rfl h
  | .barr n, X, _ => by
    have : zeroC (.barr n) = (List.replicate n (0 : UInt8)).map bv := by simp [zeroC, bv]
    rw [this]
    exact .barr (by simp)
  | .arr n e, X, h => by
    simp only [zGood, Bool.and_eq_true] at h
    have h1 := zeroR_rep e (X := X) h.2
    refine .arr (by simp) (fun x hx => by rw [List.eq_of_mem_replicate hx]; exact h.1) ?_
    simp only [zeroC]
    clear h
    induction n with
    | zero => exact .nil
    | succ n ih => rw [List.replicate_succ, List.replicate_succ, List.flatten_cons]; exact .cons h1 ih
  | .agg l, X, h => .agg (zeroRs_rep l h)
  | .other .ptr, X, _ => .nilp
  | .other .func, X, _ => .nilf
  | .other .iface, X, _ => .nili
  | .other .map, X, _ => .nilm
theorem zeroRs_rep : ∀ (s : List Sh) {X : Nat → Prop}, zGoods s = true → CReps ι X w (zeroRs s) (zeroCs s)
  | [], X, _ => .nil
  | s :: r, X, h => by
    simp only [zGoods, Bool.and_eq_true] at h
    exact .cons (zeroR_rep s h.1) (zeroRs_rep r h.2)
end
mutual
theorem zeroV_rep : ∀ (s : Sh) {X : Nat → Prop}, zGood s = true → CRep ι X w (zeroV s) (zeroC s) ∧ isSh s (zeroV s) = true
  | .int k, X, h => ⟨zeroR_rep _ h, by simp [zeroV, zeroR, isSh]⟩
  | .bool, X, h => ⟨zeroR_rep _ h, rfl⟩
  | .str, X, h => ⟨zeroR_rep _ h, rfl⟩
  | .bytes, X, _ => ⟨.nils, rfl⟩
  | .rows e, X, _ => ⟨.nils, rfl⟩
  | .barr n, X, h => ⟨zeroR_rep _ h, by simp [zeroV, zeroR, isSh]⟩
  | .arr n e, X, h => ⟨zeroR_rep _ h, by simp [zeroV, zeroR, isSh, Sh.beq_self]⟩
  | .agg l, X, h => ⟨.agg (zeroVs_rep l h).1, (zeroVs_rep (X := X) l h).2⟩
  | .other k, X, h => ⟨zeroR_rep _ h, by cases k <;> rfl⟩
theorem zeroVs_rep : ∀ (s : List Sh) {X : Nat → Prop}, zGoods s = true → CReps ι X w (zeroVs s) (zeroCs s) ∧ isShs s (zeroVs s) = true
  | [], X, _ => ⟨.nil, rfl⟩
  | s :: r, X, h => by
    simp only [zGoods, Bool.and_eq_true] at h
    have h1 := zeroV_rep s (X := X) h.1
    have h2 := zeroVs_rep r (X := X) h.2
    exact ⟨.cons h1.1 h2.1, by simp [zeroVs, isShs, h1.2, h2.2]⟩
end
theorem zOk_spec {t : TypeId} {sh : Sh} (h : zOk P t sh = true) : ∃ z, (P.info? t).bind (·.zero) = some z ∧ z.cells.toList = zeroC sh ∧ zGood sh = true ∧ (sh.isAgg = false → ∀ cs, z ≠ .agg cs) ∧ ∀ w, (zeroValue t).run P w = .ok z w := by
  unfold zOk at h
  cases hq : P.info? t with
  | none => simp [hq] at h
  | some i =>
    cases hz : i.zero with
    | none => simp [hq, hz] at h
    | some z =>
      simp only [hq, hz, Bool.and_eq_true] at h
      refine ⟨z, by simp [hz], eqC_eq h.1.2, h.1.1, fun ha cs e => ?_, fun w => by simp [zeroValue, typeInfo, hq, hz]⟩
      subst e
      rw [ha] at h
      simp at h

/-! ### new variables -/
theorem post_alloc (h : HSim ι O w0 hp w) {nid : Nat} (hn : ι nid = none) {t : TypeId} {sh : Sh} {v : V} {ds : List Value} (hs : isSh sh v = true) (hr : CRep ι (Ex1 ι hp O) w v ds) :
    Post ι O w0 hp w nid (.ref nid [] 0 sh) [(nid, some (.var sh v))] (w.alloc (.cells ds.toArray t)) (.pointer (some ⟨w.heap.size, 0, none⟩)) := by
  obtain ⟨h1, h2⟩ := h.newVar hn sh v ds t hs hr
  refine ⟨_, h1, h2, .one (.ref (.inl ⟨sh, updI_self, .here⟩)) rfl, fun id hid => ?_⟩
  unfold updI; rw [if_neg hid]
theorem op_alloc (h : HSim ι O w0 hp w) {nid : Nat} (hn : ι nid = none) {t : TypeId} {sh : Sh} (hz : zOk P t sh = true) :
    ∃ c w', (Instr.alloc t true (.tuple #[])).run P w = .ok c w' ∧ Post ι O w0 hp w nid (.ref nid [] 0 sh) [(nid, some (.var sh (zeroV sh)))] w' c := by
  obtain ⟨z, _, h1, h2, _, h3⟩ := zOk_spec hz
  obtain ⟨r1, r2⟩ := zeroV_rep (ι := ι) (w := w) sh (X := Ex1 ι hp O) h2
  refine ⟨_, w.alloc (.cells (zeroC sh).toArray t), ?_, post_alloc h hn r2 r1⟩
  rw [← h1]
  simp [Instr.alloc, h3, newVar, newRow]
theorem VRep.cells {X : Nat → Prop} {v : V} {c : Value} (h : VRep ι X w v c) {sh : Sh} (hs : isSh sh v = true) : CRep ι X w v c.cells.toList := by
  cases h with
  | one h ha =>
    have hc : ∀ cs, c ≠ .agg cs := by
      rintro cs rfl
      cases v <;> first | (cases ha; done) | (cases h; done)
    have : c.cells = #[c] := by cases c <;> first | rfl | exact absurd rfl (hc _)
    rw [this]
    exact h
  | agg h ha => exact h
  | tup _ => cases sh with
    | other k => cases k <;> simp [isSh] at hs
    | _ => simp [isSh] at hs
  | void => cases sh with
    | other k => cases k <;> simp [isSh] at hs
    | _ => simp [isSh] at hs
  | undef => cases sh with
    | other k => cases k <;> simp [isSh] at hs
    | _ => simp [isSh] at hs
theorem op_box (h : HSim ι O w0 hp w) {nid : Nat} (hn : ι nid = none) {t : TypeId} {sh : Sh} {v : V} {c : Value} (hv : VRep ι (Ex1 ι hp O) w v c) (hs : isSh sh v = true) :
    ∃ d w', (Instr.box t c).run P w = .ok d w' ∧ Post ι O w0 hp w nid (.ref nid [] 0 sh) [(nid, some (.var sh v))] w' d := by
  refine ⟨_, w.alloc (.cells c.cells.toList.toArray t), ?_, post_alloc h hn hs (hv.cells hs)⟩
  simp [Instr.box, newVar, newRow]

/-! ### stores -/
theorem CReps.ones_of {X : Nat → Prop} {e : Sh} (hl : ∀ {v cs}, isSh e v = true → CRep ι X w v cs → ∀ c ∈ cs, c.oneCell' = true) {l : List V} {ds : List Value} (h : CReps ι X w l ds) (he : ∀ x ∈ l, isR e x = true) : ∀ c ∈ ds, c.oneCell' = true := by
  induction l generalizing ds with
  | nil => cases h; simp
  | cons x l ih =>
    cases h with
    | cons p q =>
      intro c hc
      rcases List.mem_append.1 hc with hc | hc
      · exact hl (isR_isSh (he x (by simp))) p c hc
      · exact ih q (fun y hy => he y (by simp [hy])) c hc
mutual
theorem CRep.ones : ∀ {s : Sh} {v : V} {cs : List Value} {X : Nat → Prop}, isSh s v = true → CRep ι X w v cs → ∀ c ∈ cs, c.oneCell' = true
  | .int k, v, cs, X, h, hr => by cases v <;> simp [isSh] at h; cases hr; simp [Value.oneCell']
  | .bool, v, cs, X, h, hr => by cases v <;> simp [isSh] at h; cases hr; simp [Value.oneCell']
  | .str, v, cs, X, h, hr => by cases v <;> simp [isSh] at h; cases hr; simp [Value.oneCell']
  | .bytes, v, cs, X, h, hr => by cases v <;> simp [isSh] at h <;> cases hr <;> simp [Value.oneCell']
  | .other k, v, cs, X, h, hr => by cases k <;> cases v <;> simp [isSh] at h <;> cases hr <;> simp [Value.oneCell'] <;> simp at h
  | .rows e, v, cs, X, h, hr => by cases v <;> simp [isSh] at h <;> cases hr <;> simp [Value.oneCell']
  | .barr n, v, cs, X, h, hr => by cases v <;> simp [isSh] at h; cases hr; exact bv_one _
  | .arr n e, v, cs, X, h, hr => by
    cases v <;> simp [isSh] at h
    cases hr with
    | arr hn he hr =>
      rw [← Sh.beq_eq h.2] at he
      exact CReps.ones_of (fun a b => CRep.ones a b) hr he
  | .agg l, v, cs, X, h, hr => by cases v <;> simp [isSh] at h; cases hr with | agg hr => exact CReps.ones h hr
theorem CReps.ones : ∀ {s : List Sh} {v : List V} {cs : List Value} {X : Nat → Prop}, isShs s v = true → CReps ι X w v cs → ∀ c ∈ cs, c.oneCell' = true
  | [], v, cs, X, h, hr => by cases v <;> simp [isShs] at h; cases hr; simp
  | a :: s, v, cs, X, h, hr => by
    cases v with
    | nil => simp [isShs] at h
    | cons x v =>
      simp [isShs] at h
      cases hr with
      | cons p q =>
        intro c hc
        rcases List.mem_append.1 hc with hc | hc
        · exact CRep.ones h.1 p c hc
        · exact CReps.ones h.2 q c hc
end
theorem run_store_g {t : TypeId} {c : Value} {g off : Nat} {ty : TypeId} {ds zs : List Value} (hb : Bas.Blk w g ty ds) (hz : c.cells.toList = zs) (hi : (P.info? t).map (·.size) = some zs.length) (hl : off + zs.length ≤ ds.length) (h1 : ∀ v ∈ zs, v.oneCell' = true) :
    (Instr.storeAt t (.pointer (some ⟨g, off, none⟩)) c).run P w = .ok () (w.setCells g off zs) := by
  have ht := hb.there (o := off) (n := zs.length) hl
  have := run_storeCells_cells (P := P) g off zs 0 w (fun j hj => by simpa using (ht j hj).1) (fun j hj => by simpa using (ht j hj).2) h1
  cases hq : P.info? t with
  | none => simp [hq] at hi
  | some i =>
    have hs : c.cells.size = i.size := by rw [← Array.length_toList, hz]; simp [hq] at hi; omega
    simp only [Nat.add_zero] at this
    simp [Instr.storeAt, Instr.sureAddr, storeVar, sizeOf, typeInfo, hq, hs, hz, this]
theorem heap_setCells {g : Nat} : ∀ (vs : List Value) (o : Nat) (w : World) {b : Nat}, b ≠ g → (w.setCells g o vs).heap[b]? = w.heap[b]?
  | [], _, _, _, _ => rfl
  | v :: r, o, w, b, h => by rw [World.setCells, heap_setCells r (o + 1) _ h]; exact heap_setCell_other w _ b v h
theorem keeps_setCells {old : Nat → Prop} {g : Nat} (hg : ¬ old g) (vs : List Value) (o : Nat) (w : World) : Keeps old w (w.setCells g o vs) := by
  have h := below_setCells (B := 0) (Nat.zero_le g) vs o (Below.refl 0 w)
  exact ⟨h.os, h.tape, h.output, h.size, fun k hk => heap_setCells vs o w fun e => hg (e ▸ hk)⟩
theorem op_store_var (h : HSim ι O w0 hp w) {id : Nat} {s0 sh : Sh} {v v' y : V} {p : List Step} {off : Nat} {t : TypeId} {c d : Value} {x : V} (hk : hp id = some (.var s0 v))
    (hx : VRep ι (Ex1 ι hp O) w (.ref id p off sh) c) (hy : VRep ι (Ex1 ι hp O) w y d) (hs : setP v p y = some v') (hg : getP v p = some x) (hl : ldOk P t sh = true) (hsh : isSh sh y = true) :
    ∃ w', (Instr.storeAt t c d).run P w = .ok () w' ∧ ∀ nid, Post ι O w0 hp w nid .void [(id, some (.var s0 v'))] w' Go.undef := by
  obtain ⟨g, rfl, hr⟩ := hx.ref_inv
  have hz := hy.cells hsh
  have hzl := CRep.len hsh hz
  have h1 := (ldOk_spec hl).1
  cases h.blk id _ hk with
  | var hi hs0 hb hc =>
    rename_i g' ds ty
    rcases hr with ⟨s1, e1, ha⟩ | ⟨n, cc, T, e, e1, _⟩
    · rw [hi] at e1; injection e1 with e1; injection e1 with e1 e2; subst e1; subst e2
      obtain ⟨pre, cs, post, rfl, k1, k2, k3, k4, k5⟩ := part_rep ha hs0 hc hg
      obtain ⟨m1, m2⟩ := k5 y _ v' hsh hz hs
      have hlen : off + d.cells.toList.length ≤ (pre ++ (cs ++ post)).length := by simp only [List.length_append]; omega
      refine ⟨_, run_store_g hb rfl (by rw [h1, hzl]) hlen (CRep.ones hsh hz), fun nid => ?_⟩
      have hm : Mine ι hp id g' := ⟨_, _, hk, rfl, hi, rfl⟩
      have hf := h.fresh id g' hm
      obtain ⟨he, hw⟩ := h.write (k' := .var s0 v') hk rfl (keeps_setCells hf.1 _ off w) (size_setCells _ off w) (w' := w.setCells g' off d.cells.toList) (fun b _ hnm => heap_setCells _ off w fun e => hnm (e ▸ hm))
      have hB : BRep ι (Ex1 ι (updH [(id, some (.var s0 v'))] hp) O) (w.setCells g' off d.cells.toList) id (.var s0 v') := by
        have hbl := Bas.Blk.sets d.cells.toList off hb hlen
        have e : (pre ++ (cs ++ post)).take off ++ (d.cells.toList ++ (pre ++ (cs ++ post)).drop (off + d.cells.toList.length)) = pre ++ (d.cells.toList ++ post) := by
          rw [← k1, List.take_left, hzl, ← k2, List.drop_append, List.drop_of_length_le (by omega), show pre.length + cs.length - pre.length = cs.length by omega, List.drop_left, List.nil_append]
        rw [e] at hbl
        exact .var hi m2 hbl (m1.ext he)
      exact ⟨ι, hw hB, he, .void, fun _ _ => rfl⟩
    · rw [hi] at e1; cases e1
end
end Go.Am
