/- The abstract machine, eighth part: addresses, loads, parts of values, slices. -/
import Derived.Test.YthbllfhaaidhjaaAmg
namespace Go.Am
open Go Go.RowKit Go.Bas
section
variable {ι : Nat → Option Cn} {O : Nat → Prop} {w0 : Zone} {w : World} {hp : Nat → Option Blk} {P : Program}
theorem nthL_eq {α : Type} : ∀ (l : List α) (j : Nat), nthL l j = l[j]?
  | [], _ => rfl
  | _ :: _, 0 => rfl
  | _ :: l, j + 1 => by simpa [nthL] using nthL_eq l j
theorem szOk_spec {t : TypeId} {sh : Sh} (h : szOk P t sh = true) : (P.info? t).map (·.size) = some sh.size ∧ 0 < sh.size := by
  unfold szOk at h
  cases hq : P.info? t with
  | none => simp [hq] at h
  | some i =>
    simp only [hq, Bool.and_eq_true] at h
    have h1 := Nat.eq_of_beq_eq_true h.1
    have h2 : 0 < i.size := Nat.le_of_ble_eq_true h.2
    exact ⟨by simp [h1], by omega⟩
theorem offOk_spec {t : TypeId} {ss : List Sh} {j : Nat} {s : Sh} (h : offOk P t ss j = true) (hj : nthL ss j = some s) :
    ∃ fs f, P.underlying t = some (.struct fs) ∧ fs[j]? = some f ∧ f.offset = fldOff ss j ∧ (P.info? f.type).map (·.size) = some s.size ∧ 0 < s.size ∧ fldTy P t j = f.type := by
  unfold offOk at h
  split at h
  · rename_i fs hu
    cases hf : fs[j]? with
    | none => simp [hf] at h
    | some f =>
      simp only [hf, hj, Bool.and_eq_true] at h
      obtain ⟨h1, h2⟩ := szOk_spec h.2
      exact ⟨fs, f, hu, hf, Nat.eq_of_beq_eq_true h.1, h1, h2, by simp [fldTy, hu, hf]⟩
  · cases h
theorem ixOkS_spec {t : TypeId} {sh : Sh} (h : ixOkS P t sh = true) : ∃ e, P.underlying t = some (.slice e) ∧ (P.info? e).map (·.size) = some sh.size ∧ elTy P t = e := by
  unfold ixOkS at h
  split at h
  · rename_i e hu
    exact ⟨e, hu, (szOk_spec h).1, by simp [elTy, hu]⟩
  · cases h
theorem ixOkA_spec {t : TypeId} {n : Nat} {sh : Sh} (h : ixOkA P t n sh = true) : ∃ e, P.underlying t = some (.array n e) ∧ (P.info? e).map (·.size) = some sh.size ∧ elTy P t = e := by
  unfold ixOkA at h
  split at h
  · rename_i m e hu
    simp only [Bool.and_eq_true] at h
    have := Nat.eq_of_beq_eq_true h.1
    subst this
    exact ⟨e, hu, (szOk_spec h.2).1, by simp [elTy, hu]⟩
  · cases h
theorem inB_nat {i : Int} {n : Nat} (h : inB i n = true) : i.toNat < n := by
  simp only [inB, Bool.and_eq_true, decide_eq_true_eq] at h
  omega

/-! ### paths -/
theorem At.snoc {s m r : Sh} {p q : List Step} {o o' : Nat} (h : At s p o m) (k : At m q o' r) : At s (p ++ q) (o + o') r := by
  induction h with
  | here => simpa using k
  | fld hj _ ih => rw [Nat.add_assoc]; exact .fld hj (ih k)
  | byte hi => cases k; exact .byte hi
  | elem hi _ ih => rw [Nat.add_assoc]; exact .elem hi (ih k)
theorem RefTo.snoc {id : Nat} {p q : List Step} {off o' : Nat} {m r : Sh} {g : Nat} (h : RefTo ι id p off m g) (k : At m q o' r) : RefTo ι id (p ++ q) (off + o') r g := by
  rcases h with ⟨s0, h1, h2⟩ | ⟨n, c, T, e, h1, h2, h3⟩
  · exact .inl ⟨s0, h1, h2.snoc k⟩
  · exact .inr ⟨n, c, T, e, h1, h2.snoc k, by simp [h3]⟩
theorem At.fld1 {ss : List Sh} {j : Nat} {s : Sh} (hj : nthL ss j = some s) : At (.agg ss) [.fld j] (fldOff ss j) s := by
  have := At.fld hj At.here
  simpa using this
theorem At.elem1 {n i : Nat} {e : Sh} (hi : i < n) : At (.arr n e) [.idx i] (i * e.size) e := by
  have := At.elem hi (At.here (s := e))
  simpa using this

/-! ### what lies there -/
theorem row_cell {base size n c m : Nat} {T : TypeId} {g : Nat} {ds : List Value} (h : w.ownsRow base T size (.slice (some ⟨g, 0, none⟩) n c) m ds) {j : Nat} {u : Value} (hj : ds[j]? = some u) : w.cell? ⟨g, j, none⟩ = some u := by
  rcases h.2 with ⟨h1, _⟩ | ⟨g', cap, cur, e, hb, hg, hn, hm, hs, ht⟩
  · cases h1
  · injection e with e1 e2 e3
    injection e1 with e1; injection e1 with e1
    subst e1
    rw [cell_of_row w g j cur T (0, 0) hg, ← Array.getElem?_toList]
    rw [← ht, List.getElem?_take] at hj
    split at hj
    · exact hj
    · cases hj
theorem split_get {pre cs post : List Value} {j : Nat} {u : Value} (h : cs[j]? = some u) : (pre ++ (cs ++ post))[pre.length + j]? = some u := by
  rw [List.getElem?_append_right (by omega), show pre.length + j - pre.length = j by omega]
  have hlt : j < cs.length := by
    rcases Nat.lt_or_ge j cs.length with h' | h'
    · exact h'
    · rw [List.getElem?_eq_none h'] at h; cases h
  rw [List.getElem?_append_left hlt]; exact h
/-- a slice that is read alone, as a row -/
theorem view_row {X : Nat → Prop} {v : V} {A : Option Addr} {n c : Nat} {e : Sh} (h : CRep ι X w v [.slice A n c]) (hv : elSh v = e) (hw : isRow v = true) :
    ∃ ds, RowC ι X w n e v ds ∧ (0 < n → ∃ b off, A = some ⟨b, off, none⟩ ∧ ¬ X b ∧ b < w.heap.size ∧ ∀ j u, ds[j]? = some u → w.cell? ⟨b, off + j, none⟩ = some u) := by
  cases v <;> simp [isRow] at hw
  · rename_i l
    cases h with | bytes hb hx =>
    have hl := hb.len
    subst hl
    refine ⟨l.map bv, by subst hv; exact .bytes, fun h0 => ?_⟩
    obtain ⟨b, off, rfl, hlt, hc⟩ := hb.at_ h0
    refine ⟨b, off, rfl, hx (by rintro rfl; simp at h0) b off rfl, hlt, fun j u hj => ?_⟩
    have hjl : j < l.length := by
      rcases Nat.lt_or_ge j l.length with h' | h'
      · exact h'
      · rw [List.getElem?_eq_none (by simpa using h')] at hj; cases hj
    rw [bv_getElem? hjl] at hj
    cases hj
    exact hc j hjl
  · rename_i e' l
    cases h with | rows h1 h2 h3 h4 h5 h6 =>
    rename_i ds
    subst h1
    refine ⟨ds, by subst hv; exact .rows h4 h5, fun h0 => ?_⟩
    obtain ⟨b, off, e1, e2, e3, e4⟩ := h6 (by rintro rfl; simp at h0)
    exact ⟨b, off, e1, e2, e3, e4⟩
theorem blk_part (h : HSim ι O w0 hp w) {id : Nat} {k : Blk} {p : List Step} {off : Nat} {sh : Sh} {g : Nat} {x : V} (hk : hp id = some k) (hr : RefTo ι id p off sh g) (hg : getP (contV k) p = some x) :
    ∃ cs, CRep ι (Ex1 ι hp O) w x cs ∧ isSh sh x = true ∧ ∀ j u, cs[j]? = some u → w.cell? ⟨g, off + j, none⟩ = some u := by
  cases h.blk id k hk with
  | var hi hs hb hc =>
    rcases hr with ⟨s0, h1, h2⟩ | ⟨n, c, T, e, h1, _⟩
    · rw [hi] at h1; injection h1 with h1; injection h1 with e1 e2; subst e1; subst e2
      obtain ⟨pre, cs, post, rfl, k1, k2, k3, k4, _⟩ := part_rep h2 hs hc hg
      refine ⟨cs, k3, k4, fun j u hj => ?_⟩
      rw [← k1]
      exact hb.cell (split_get hj)
    · rw [hi] at h1; cases h1
  | row hi hc ho =>
    rcases hr with ⟨s0, h1, h2⟩ | ⟨n, c, T, e, h1, h2, h3⟩
    · rw [hi] at h1; cases h1
    · rw [hi] at h1; injection h1 with h1; injection h1 with e1 e2 e3 e4 e5; subst e1; subst e2; subst e3; subst e4; subst e5
      obtain ⟨pre, cs, post, rfl, k1, k2, k3, k4, _⟩ := row_rep h2 h3 hc hg
      refine ⟨cs, k3, k4, fun j u hj => ?_⟩
      rw [← k1]
      exact row_cell ho (split_get hj)
  | view hi hc hw he =>
    rcases hr with ⟨s0, h1, h2⟩ | ⟨n, c, T, e, h1, h2, h3⟩
    · rw [hi] at h1; cases h1
    · have hn : 0 < n := by
        cases h2 with
        | here => exact absurd rfl h3
        | elem hi' _ => omega
      rw [hi] at h1; injection h1 with h1; injection h1 with e1 e2 e3 e4 e5; subst e1; subst e2; subst e3; subst e4; subst e5
      obtain ⟨ds, r1, r2⟩ := view_row hc he hw
      obtain ⟨b, off', e1, _, _, r3⟩ := r2 hn
      injection e1 with e1; injection e1 with e1 e2; subst e1; subst e2
      obtain ⟨pre, cs, post, rfl, k1, k2, k3, k4, _⟩ := row_rep h2 h3 r1 hg
      refine ⟨cs, k3, k4, fun j u hj => ?_⟩
      rw [← k1]
      have := r3 _ _ (split_get (pre := pre) (post := post) hj)
      rwa [Nat.zero_add] at this
/-- what a slice of the call's own reads as -/
theorem own_cont (h : HSim ι O w0 hp w) {id n : Nat} {sh : Sh} {A : Option Addr} {c : Nat} {T : TypeId} {k : Blk} (hi : ι id = some (.row A n c T sh)) (hk : hp id = some k) :
    (∃ ds, RowC ι (Ex1 ι hp O) w n sh (contV k) ds ∧ w.ownsRow 0 T sh.size (.slice A n c) n ds ∧ k = .row T sh (contV k)) ∨ CRep ι (Ex1 ι hp O) w (contV k) [.slice A n c] ∧ isRow (contV k) = true ∧ elSh (contV k) = sh ∧ isView k = true := by
  cases h.blk id k hk with
  | var h1 => rw [hi] at h1; cases h1
  | row h1 h2 h3 =>
    rw [hi] at h1; injection h1 with h1; injection h1 with e1 e2 e3 e4 e5; subst e1; subst e2; subst e3; subst e4; subst e5
    exact .inl ⟨_, h2, h3, rfl⟩
  | view h1 h2 h3 h4 =>
    rw [hi] at h1; injection h1 with h1; injection h1 with e1 e2 e3 e4 e5; subst e1; subst e2; subst e3; subst e4; subst e5
    exact .inr ⟨h2, h3, h4, rfl⟩

/-! ### the operations -/
theorem op_load (h : HSim ι O w0 hp w) {t : TypeId} {x v : V} {c : Value} (hx : VRep ι (Ex1 ι hp O) w x c)
    (hl : (∃ id p off sh k, x = .ref id p off sh ∧ hp id = some k ∧ getP (contV k) p = some v ∧ ldOk P t sh = true) ∨ (∃ sh, x = .vref sh v ∧ ldOk P t sh = true)) :
    ∃ d, (Instr.loadAt t c).run P w = .ok d w ∧ VRep ι (Ex1 ι hp O) w v d := by
  rcases hl with ⟨id, p, off, sh, k, rfl, hk, hg, ho⟩ | ⟨sh, rfl, ho⟩
  · obtain ⟨g, rfl, hr⟩ := hx.ref_inv
    obtain ⟨cs, h1, h2, h3⟩ := blk_part h hk hr hg
    exact load_rep ho h2 h1 h3
  · obtain ⟨b, off, ds, rfl, h1, h2, h3, h4, h5⟩ := hx.vref_inv
    exact load_rep ho (isR_isSh h1) h2 h5
theorem op_fieldAddr_ref {t : TypeId} {id : Nat} {p : List Step} {off j : Nat} {ss : List Sh} {s : Sh} {X : Nat → Prop} {c : Value} (hx : VRep ι X w (.ref id p off (.agg ss)) c) (hj : nthL ss j = some s) (ho : offOk P t ss j = true) :
    ∃ d, (Instr.fieldAt t c j).run P w = .ok d w ∧ VRep ι X w (.ref id (p ++ [.fld j]) (off + fldOff ss j) s) d := by
  obtain ⟨g, rfl, hr⟩ := hx.ref_inv
  obtain ⟨fs, f, h1, h2, h3, h4, h5, _⟩ := offOk_spec ho hj
  refine ⟨_, fld_run t fs f j g off h1 h2 ?_, ?_⟩
  · cases hq : P.info? f.type with
    | none => simp [hq] at h4
    | some i => simp [hq] at h4 ⊢; omega
  · rw [h3]
    exact .one (.ref (hr.snoc (At.fld1 hj))) rfl
theorem op_fieldAddr_vref {t : TypeId} {j : Nat} {ss : List Sh} {s : Sh} {l : List V} {v : V} {X : Nat → Prop} {c : Value} (hx : VRep ι X w (.vref (.agg ss) (.agg l)) c) (hj : nthL ss j = some s) (hv : nthL l j = some v) (ho : offOk P t ss j = true) :
    ∃ d, (Instr.fieldAt t c j).run P w = .ok d w ∧ VRep ι X w (.vref s v) d := by
  obtain ⟨b, off, ds, rfl, h1, h2, h3, h4, h5⟩ := hx.vref_inv
  obtain ⟨fs, f, k1, k2, k3, k4, k5, _⟩ := offOk_spec ho hj
  refine ⟨_, fld_run t fs f j b off k1 k2 ?_, ?_⟩
  · cases hq : P.info? f.type with
    | none => simp [hq] at k4
    | some i => simp [hq] at k4 ⊢; omega
  · rw [k3]
    cases h2 with
    | agg hr =>
      have hs : isShs ss l = true := isRs_isShs (by simpa [isR] using h1)
      obtain ⟨pre, cs, post, rfl, m1, m2, m3, _⟩ := CReps.part hs hr hj hv
      obtain ⟨v', q1, q2⟩ := isRs_nth (by simpa [isR] using h1) hj
      rw [hv] at q1; injection q1 with q1; subst q1
      refine .one (.vref q2 m3 h3 h4 fun i u hi => ?_) rfl
      rw [Nat.add_assoc, ← m1]
      exact h5 _ _ (split_get hi)
theorem elem_at {X : Nat → Prop} {e : Sh} {l : List V} {ds : List Value} {i : Nat} (he : ∀ x ∈ l, isR e x = true) (hr : CReps ι X w l ds) (hi : i < l.length) :
    ∃ cs, CRep ι X w (eta e (l.getD i .undef)) cs ∧ isR e (eta e (l.getD i .undef)) = true ∧ ∀ j u, cs[j]? = some u → ds[i * e.size + j]? = some u := by
  have hmem : l[i] ∈ l := List.getElem_mem hi
  have hgd : l.getD i .undef = l[i] := by rw [List.getD_eq_getElem?_getD, List.getElem?_eq_getElem hi]; rfl
  have hR := he _ hmem
  obtain ⟨pre, cs, post, rfl, h1, h2, h3, _⟩ := CReps.elem hr he hi
  rw [hgd, isR_eta hR]
  refine ⟨cs, h3, hR, fun j u hj => ?_⟩
  rw [← h1]
  exact split_get hj
theorem op_index {X : Nat → Prop} {t : TypeId} {x : V} {k : IntKind} {i : Int} {c : Value} {r : Res} (hx : VRep ι X w x c) (h : indexV P t x i = some r) (hob : r.ob = true) :
    ∃ d, (Instr.indexAt t c (.int k i)).run P w = .ok d w ∧ VRep ι X w r.v d ∧ r.wr = [] := by
  unfold indexV at h
  split at h
  · obtain ⟨ho, h⟩ := ofBif h; injection h with h; subst h
    rename_i id n sh
    obtain ⟨A, c, T, rfl, hi, hA⟩ := hx.own_inv
    obtain ⟨e, hu, hz, _⟩ := ixOkS_spec ho
    have hlt := inB_nat hob
    obtain ⟨g, rfl⟩ := hA (by omega)
    refine ⟨_, idx_run_slice t e _ _ g 0 _ hu hz hob, ?_, rfl⟩
    rw [Nat.zero_add]
    exact .one (.ref (.inr ⟨_, _, _, _, hi, .elem1 hlt, by simp⟩)) rfl
  · obtain ⟨ho, h⟩ := ofBif h; injection h with h; subst h
    obtain ⟨g, rfl, hr⟩ := hx.ref_inv
    obtain ⟨e, hu, hz, _⟩ := ixOkA_spec ho
    refine ⟨_, idx_run t e _ g _ _ hu hz hob, ?_, rfl⟩
    simp only [Sh.size, Nat.mul_one]
    exact .one (.ref (hr.snoc (.byte (inB_nat hob)))) rfl
  · obtain ⟨ho, h⟩ := ofBif h; injection h with h; subst h
    obtain ⟨g, rfl, hr⟩ := hx.ref_inv
    obtain ⟨e, hu, hz, _⟩ := ixOkA_spec ho
    exact ⟨_, idx_run t e _ g _ _ hu hz hob, .one (.ref (hr.snoc (.elem1 (inB_nat hob)))) rfl, rfl⟩
  · obtain ⟨ho, h⟩ := ofBif h; injection h with h; subst h
    obtain ⟨A, n, c, rfl, hb, hx'⟩ := hx.bytes_inv
    obtain ⟨e, hu, hz, _⟩ := ixOkS_spec ho
    have hlt := inB_nat hob
    obtain ⟨b, off, rfl, hbl, hc⟩ := hb.at_ (by omega)
    have hl := hb.len
    subst hl
    refine ⟨_, idx_run_slice t e _ _ b off _ hu hz hob, ?_, rfl⟩
    refine .one (.vref rfl (.int fun _ => ⟨gt_lo _ _, gt_hi _ _⟩) (hx' (by rintro rfl; simp at hlt) _ _ rfl) hbl fun j u hj => ?_) rfl
    cases j with
    | zero => injection hj with hj; subst hj; simpa [Sh.size] using hc _ hlt
    | succ j => cases hj
  · obtain ⟨ho, h⟩ := ofBif h; injection h with h; subst h
    obtain ⟨e, hu, hz, _⟩ := ixOkS_spec ho
    have hlt := inB_nat hob
    cases hx with
    | agg _ ha => cases ha
    | one hx _ =>
      cases hx with
      | rows h1 h2 h3 h4 h5 h6 =>
        rename_i A n c' ds
        subst h1
        obtain ⟨b, off, rfl, e2, e3, e4⟩ := h6 (by rintro rfl; simp at hlt)
        obtain ⟨cs, q1, q2, q3⟩ := elem_at h4 h5 hlt
        refine ⟨_, idx_run_slice t e _ _ b off _ hu hz hob, .one (.vref q2 q1 e2 e3 fun j u hj => ?_) rfl, rfl⟩
        rw [Nat.add_assoc]
        exact e4 _ _ (q3 j u hj)
  · obtain ⟨ho, h⟩ := ofBif h; injection h with h; subst h
    obtain ⟨b, off, ds, rfl, h1, h2, h3, h4, h5⟩ := hx.vref_inv
    obtain ⟨e, hu, hz, _⟩ := ixOkA_spec ho
    have hlt := inB_nat hob
    refine ⟨_, idx_run t e _ b _ _ hu hz hob, ?_, rfl⟩
    cases h2 with
    | barr hn =>
      rename_i n _ l
      simp [isR] at h1; subst h1
      refine .one (.vref rfl (.int fun _ => ⟨gt_lo _ _, gt_hi _ _⟩) h3 h4 fun j u hj => ?_) rfl
      cases j with
      | zero =>
        injection hj with hj; subst hj
        have := h5 i.toNat _ (bv_getElem? (by omega))
        simpa [Sh.size] using this
      | succ j => cases hj
  · obtain ⟨ho, h⟩ := ofBif h; injection h with h; subst h
    obtain ⟨b, off, ds, rfl, h1, h2, h3, h4, h5⟩ := hx.vref_inv
    obtain ⟨e, hu, hz, _⟩ := ixOkA_spec ho
    have hlt := inB_nat hob
    refine ⟨_, idx_run t e _ b _ _ hu hz hob, ?_, rfl⟩
    cases h2 with
    | arr hn he hr =>
      simp only [isR, Bool.and_eq_true] at h1
      have e1 := Nat.eq_of_beq_eq_true h1.1
      have e2 := Sh.beq_eq h1.2
      subst e1; subst e2
      obtain ⟨cs, q1, q2, q3⟩ := elem_at he hr (by rw [hn]; exact hlt)
      refine .one (.vref q2 q1 h3 h4 fun j u hj => ?_) rfl
      rw [Nat.add_assoc]
      exact h5 _ _ (q3 j u hj)
  · cases h
/-! ### parts of values -/
theorem part_run {t : TypeId} {sh : Sh} {x : V} {pre cs post : List Value} {X : Nat → Prop} (hl : ldOk P t sh = true) (hs : isSh sh x = true) (hr : CRep ι X w x cs) :
    ∃ d, (part t (pre ++ (cs ++ post)).toArray pre.length).run P w = .ok d w ∧ VRep ι X w x d := by
  obtain ⟨h1, hia⟩ := ldOk_spec hl
  have hlen := CRep.len hs hr
  cases ha : sh.isAgg with
  | true =>
    rw [ha] at hia
    refine ⟨.agg cs.toArray, ?_, .agg hr (by rw [isSh_isAgg hs]; exact ha)⟩
    cases hq : P.info? t with
    | none => simp [hq] at h1
    | some i =>
      have hsz : i.size = cs.length := by simp [hq] at h1; omega
      have hex : (pre ++ (cs ++ post)).toArray.extract pre.length (pre.length + i.size) = cs.toArray := by
        apply Array.ext'
        rw [hsz]
        simp
      simp [part, hia, sizeOf, typeInfo, hq]
      simpa using hex
  | false =>
    rw [ha] at hia
    have h1' : sh.size = 1 := by cases sh <;> simp [Sh.isAgg] at ha <;> rfl
    obtain ⟨c, rfl⟩ : ∃ c, cs = [c] := by
      rw [h1'] at hlen
      match cs, hlen with
      | [c], _ => exact ⟨c, rfl⟩
    refine ⟨c, ?_, .one hr (by rw [isSh_isAgg hs]; exact ha)⟩
    simp [part, hia]
theorem op_field {t : TypeId} {l : List V} {j : Nat} {ss : List Sh} {s : Sh} {v : V} {X : Nat → Prop} {c : Value} (hx : VRep ι X w (.agg l) c) (hj : nthL ss j = some s) (hv : nthL l j = some v) (ho : offOk P t ss j = true) (hl : ldOk P (fldTy P t j) s = true) (hs : isShs ss l = true) :
    ∃ d, (Instr.field t c j).run P w = .ok d w ∧ VRep ι X w v d := by
  obtain ⟨cs, rfl, hr⟩ := hx.agg_inv rfl
  obtain ⟨fs, f, k1, k2, k3, k4, k5, k6⟩ := offOk_spec ho hj
  cases hr with
  | agg hr =>
    obtain ⟨pre, ds, post, rfl, m1, m2, m3, _⟩ := CReps.part hs hr hj hv
    obtain ⟨v', q1, q2⟩ := isShs_nth hs hj
    rw [hv] at q1; injection q1 with q1; subst q1
    obtain ⟨d, r1, r2⟩ := part_run (pre := pre) (post := post) hl q2 m3
    refine ⟨d, ?_, r2⟩
    simp only [Instr.field, Sem.run_bind, run_underlying k1, Result.andThen_ok, k2, asAgg, Sem.run_pure]
    rw [k3, ← m1, ← k6]
    exact r1
theorem op_idx {t : TypeId} {x : V} {k : IntKind} {i : Int} {X : Nat → Prop} {c : Value} {r : Res} (hx : VRep ι X w x c) (h : idxV P t x i = some r) (hob : r.ob = true) :
    ∃ d, (Instr.index t c (.int k i)).run P w = .ok d w ∧ VRep ι X w r.v d ∧ r.wr = [] := by
  have hin : ∀ {n : Nat}, inB i n = true → 0 ≤ i ∧ i < (n : Int) := by
    intro n h
    simpa only [inB, Bool.and_eq_true, decide_eq_true_eq] using h
  unfold idxV at h
  split at h
  · obtain ⟨ho, h⟩ := ofBif h; injection h with h; subst h
    simp only [Bool.and_eq_true] at ho
    obtain ⟨e, hu, hz, he⟩ := ixOkA_spec ho.1
    have hlt := inB_nat hob
    obtain ⟨cs, rfl, hr⟩ := hx.agg_inv rfl
    cases hr with
    | barr hn =>
      rename_i n l
      have hlt' : i.toNat < l.length := by omega
      have hsp : l.map bv = (l.take i.toNat).map bv ++ ([bv l[i.toNat]] ++ (l.drop (i.toNat + 1)).map bv) := by
        rw [← List.map_singleton, ← List.map_append, ← List.map_append]
        congr 1
        simp
      obtain ⟨d, r1, r2⟩ := part_run (pre := (l.take i.toNat).map bv) (post := (l.drop (i.toNat + 1)).map bv) (w := w) (ι := ι) (X := X) (x := .int .u8 (gt l i.toNat)) (cs := [bv l[i.toNat]]) ho.2 rfl (by rw [show bv l[i.toNat] = .int .u8 (gt l i.toNat) from by rw [gt_of_lt hlt']; rfl]; exact .int fun _ => ⟨gt_lo _ _, gt_hi _ _⟩)
      refine ⟨d, ?_, r2, rfl⟩
      have hpl : ((l.take i.toNat).map bv).length = i.toNat := by simp; omega
      rw [← hsp, hpl, he] at r1
      cases hq : P.info? e with
      | none => simp [hq] at hz
      | some inf =>
        simp [hq, Sh.size] at hz
        simp [Instr.index, asIntOf, run_underlying hu, (hin hob).1, (hin hob).2, sizeOf, typeInfo, hq, hz]
        simpa using r1
  · obtain ⟨ho, h⟩ := ofBif h; injection h with h; subst h
    simp only [Bool.and_eq_true] at ho
    obtain ⟨e, hu, hz, he⟩ := ixOkA_spec ho.1
    have hlt := inB_nat hob
    obtain ⟨cs, rfl, hr⟩ := hx.agg_inv rfl
    cases hr with
    | arr hn hee hr =>
      rename_i e' n l
      have hlt' : i.toNat < l.length := by omega
      have hmem : l[i.toNat] ∈ l := List.getElem_mem hlt'
      have hgd : l.getD i.toNat .undef = l[i.toNat] := by rw [List.getD_eq_getElem?_getD, List.getElem?_eq_getElem hlt']; rfl
      have hR := hee _ hmem
      obtain ⟨pre, cs, post, rfl, h1, h2, h3, _⟩ := CReps.elem hr hee hlt'
      obtain ⟨d, r1, r2⟩ := part_run (pre := pre) (post := post) ho.2 (isR_isSh hR) h3
      refine ⟨d, ?_, ?_, rfl⟩
      · rw [h1, he] at r1
        cases hq : P.info? e with
        | none => simp [hq] at hz
        | some inf =>
          simp [hq] at hz
          simp [Instr.index, asIntOf, run_underlying hu, (hin hob).1, (hin hob).2, sizeOf, typeInfo, hq, hz]
          simpa using r1
      · show VRep ι X w (eta e' (l.getD i.toNat .undef)) d
        rw [hgd, isR_eta hR]; exact r2
  · rename_i l
    split at h
    · rename_i hu
      injection h with h; subst h
      cases hx.str_inv
      have hlt := inB_nat hob
      refine ⟨.int .u8 (gt l i.toNat), ?_, VRep.i fun _ => ⟨gt_lo _ _, gt_hi _ _⟩, rfl⟩
      have hg : (⟨l.toArray⟩ : ByteArray)[i.toNat]? = some l[i.toNat] := by
        exact getElem?_pos (⟨l.toArray⟩ : ByteArray) i.toNat (show i.toNat < (⟨l.toArray⟩ : ByteArray).size by simpa [ByteArray.size] using hlt)
      simp [Instr.index, asIntOf, run_underlying hu, (hin hob).1, hg, gt_of_lt hlt]
    · cases h
  · cases h
end
end Go.Am
