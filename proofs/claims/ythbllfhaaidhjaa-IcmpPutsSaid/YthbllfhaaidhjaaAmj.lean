/- The abstract machine, tenth part: what is called gets values; slices, lengths, conversions. -/
import Derived.Test.YthbllfhaaidhjaaAmi
namespace Go.Am
open Go Go.RowKit Go.Bas
abbrev no : Nat → Option Cn := fun _ => none
section
variable {ι : Nat → Option Cn} {O : Nat → Prop} {w0 : Zone} {w : World} {hp : Nat → Option Blk} {P : Program}

/-! ### values that point to nothing of the call's own -/
theorem CReps.any_of {ι' : Nat → Option Cn} {X : Nat → Prop} {e : Sh} (hl : ∀ {v cs}, isR e v = true → CRep ι X w v cs → CRep ι' X w v cs) {l : List V} {ds : List Value} (h : CReps ι X w l ds) (he : ∀ x ∈ l, isR e x = true) : CReps ι' X w l ds := by
  induction l generalizing ds with
  | nil => cases h; exact .nil
  | cons x l ih =>
    cases h with
    | cons p q => exact .cons (hl (he x (by simp)) p) (ih q (fun y hy => he y (by simp [hy])))
mutual
theorem CRep.any {ι' : Nat → Option Cn} {X : Nat → Prop} : ∀ {s : Sh} {v : V} {cs : List Value}, isR s v = true → CRep ι X w v cs → CRep ι' X w v cs
  | .int k, v, cs, h, hr => by cases v <;> simp [isR] at h; cases hr with | int h => exact .int h
  | .bool, v, cs, h, hr => by cases v <;> simp [isR] at h; cases hr; exact .bool
  | .str, v, cs, h, hr => by cases v <;> simp [isR] at h; cases hr; exact .str
  | .bytes, v, cs, h, hr => by cases v <;> simp [isR] at h; cases hr with | bytes a b => exact .bytes a b
  | .other k, v, cs, h, hr => by cases v <;> simp [isR] at h
  | .rows e, v, cs, h, hr => by
    cases v <;> simp [isR] at h
    cases hr with
    | rows a b c d e' f =>
      rename_i e2 l _ _ _ _
      have := Sh.beq_eq h
      subst this
      exact .rows a b c d (CReps.any_of (fun p q => CRep.any p q) e' d) f
  | .barr n, v, cs, h, hr => by cases v <;> simp [isR] at h; cases hr with | barr a => exact .barr a
  | .arr n e, v, cs, h, hr => by
    cases v <;> simp [isR] at h
    cases hr with
    | arr a b c =>
      have := Sh.beq_eq h.2
      subst this
      exact .arr a b (CReps.any_of (fun p q => CRep.any p q) c b)
  | .agg l, v, cs, h, hr => by cases v <;> simp [isR] at h; cases hr with | agg hr => exact .agg (CReps.any h hr)
theorem CReps.any {ι' : Nat → Option Cn} {X : Nat → Prop} : ∀ {s : List Sh} {v : List V} {cs : List Value}, isRs s v = true → CReps ι X w v cs → CReps ι' X w v cs
  | [], v, cs, h, hr => by cases v <;> simp [isRs] at h; cases hr; exact .nil
  | a :: s, v, cs, h, hr => by
    cases v with
    | nil => simp [isRs] at h
    | cons x v => simp [isRs] at h; cases hr with | cons p q => exact .cons (CRep.any h.1 p) (CReps.any h.2 q)
end
theorem row_any {ι' : Nat → Option Cn} {X : Nat → Prop} {v : V} {cs : List Value} (hw : isRow v = true) (h : CRep ι X w v cs) : CRep ι' X w v cs := by
  cases v <;> simp [isRow] at hw
  · exact CRep.any (s := .bytes) rfl h
  · rename_i e l; exact CRep.any (s := .rows e) (by simp [isR, Sh.beq_self]) h
/-- all that is lent is read alone from now on -/
def Lent (ι : Nat → Option Cn) (hp : Nat → Option Blk) (X1 : Nat → Prop) (l : List Nat) : Prop := ∀ i ∈ l, ∀ A n c T sh, ι i = some (.row A n c T sh) → ∀ b, Mine ι hp i b → ¬ X1 b
theorem Lent.seal (h : HSim ι O w0 hp w) (l : List Nat) : Lent ι hp (Ex1 ι (updH (sealB hp l) hp) O) l := by
  intro i hi A n c0 T sh hrow b hm hx
  rcases hx with hx | ⟨j, k, c, h1, h2, h3, h4⟩
  · exact h.mine_not_outer hm hx
  · rw [seal_at] at h1
    by_cases hj : j ∈ l
    · rw [if_pos hj] at h1
      obtain ⟨k', h5, rfl⟩ := Option.map_eq_some_iff.1 h1
      cases k' with
      | var sh v =>
        have hm' : Mine ι hp j b := ⟨_, c, h5, rfl, h3, h4⟩
        have e := h.one _ _ _ hm hm'
        subst e
        cases h.blk _ _ h5 with
        | var hv => rw [hrow] at hv; cases hv
      | row => cases h2
      | view => cases h2
    · rw [if_neg hj] at h1
      have hm' : Mine ι hp j b := ⟨k, c, h1, h2, h3, h4⟩
      have e := h.one _ _ _ hm hm'
      subst e
      exact hj hi
theorem own_low (h : HSim ι O w0 hp w) {X1 : Nat → Prop} (hx : Ext ι ι (Ex1 ι hp O) X1 w w) {id n : Nat} {sh : Sh} {A : Option Addr} {c : Nat} {T : TypeId} {k : Blk} (hi : ι id = some (.row A n c T sh)) (hk : hp id = some k)
    (hl : ∀ b, Mine ι hp id b → ¬ X1 b) : CRep no X1 w (contV k) [.slice A n c] ∧ isRow (contV k) = true ∧ elSh (contV k) = sh := by
  rcases own_cont h hi hk with ⟨ds, h1, h2, h3⟩ | ⟨h1, h2, h3, _⟩
  · have hw := h1.isRow
    refine ⟨row_any hw (row_view (h1.ext hx) h2 fun b hb => ?_), hw, h1.elSh⟩
    cases A with
    | none => cases hb
    | some a =>
      injection hb with hb; subst hb
      exact hl _ ⟨_, _, hk, by rw [h3]; rfl, hi, rfl⟩
  · exact ⟨row_any h2 (h1.ext hx), h2, h3⟩
mutual
theorem low_rep (h : HSim ι O w0 hp w) {X1 : Nat → Prop} (hx : Ext ι ι (Ex1 ι hp O) X1 w w) : ∀ (v : V) {sh : Sh} {v' : V} {cs : List Value}, low hp sh v = some v' → Lent ι hp X1 (ids v) → CRep ι (Ex1 ι hp O) w v cs → CRep no X1 w v' cs ∧ v'.isAgg = v.isAgg
  | .own id n s, sh, v', cs, hl, hs, hr => by
    cases hr with
    | own hi hA =>
      have hl' : (hp id).map contV = some v' := by cases sh <;> exact hl
      obtain ⟨k, hk, rfl⟩ := Option.map_eq_some_iff.1 hl'
      obtain ⟨h1, h2, _⟩ := own_low h hx hi hk (hs id (by simp [ids]) _ _ _ _ _ hi)
      refine ⟨h1, ?_⟩
      revert h2
      cases contV k <;> simp [isRow, V.isAgg]
  | .nils, sh, v', cs, hl, hs, hr => by
    cases hr
    cases sh <;> simp [low] at hl <;> subst hl
    · exact ⟨.bytes (Bs.nil _ _ _ (by omega)) fun h => absurd rfl h, rfl⟩
    · exact ⟨.rows (ds := []) rfl (Nat.le_refl _) (by omega) (by simp) .nil fun h => absurd rfl h, rfl⟩
  | .agg l, sh, v', cs, hl, hs, hr => by
    cases sh <;> simp [low] at hl
    obtain ⟨l', h1, rfl⟩ := hl
    cases hr with | agg hr => exact ⟨.agg (lows_repC h hx l h1 hs hr), rfl⟩
  | .int k n, sh, v', cs, hl, hs, hr => by
    have : v' = .int k n := by cases sh <;> simp [low] at hl <;> exact hl.symm
    subst this; cases hr with | int a => exact ⟨.int a, rfl⟩
  | .bool b, sh, v', cs, hl, hs, hr => by
    have : v' = .bool b := by cases sh <;> simp [low] at hl <;> exact hl.symm
    subst this; cases hr; exact ⟨.bool, rfl⟩
  | .str b, sh, v', cs, hl, hs, hr => by
    have : v' = .str b := by cases sh <;> simp [low] at hl <;> exact hl.symm
    subst this; cases hr; exact ⟨.str, rfl⟩
  | .bytes l, sh, v', cs, hl, hs, hr => by
    have : v' = .bytes l := by cases sh <;> simp [low] at hl <;> exact hl.symm
    subst this; exact ⟨row_any rfl (hr.ext hx), rfl⟩
  | .rows e l, sh, v', cs, hl, hs, hr => by
    have : v' = .rows e l := by cases sh <;> simp [low] at hl <;> exact hl.symm
    subst this; exact ⟨row_any rfl (hr.ext hx), rfl⟩
  | .barr n l, sh, v', cs, hl, hs, hr => by
    have : v' = .barr n l := by cases sh <;> simp [low] at hl <;> exact hl.symm
    subst this; cases hr with | barr a => exact ⟨.barr a, rfl⟩
  | .arr e n l, sh, v', cs, hl, hs, hr => by
    have : v' = .arr e n l := by cases sh <;> simp [low] at hl <;> exact hl.symm
    subst this; exact ⟨CRep.any (s := .arr n e) (by simp [isR, Sh.beq_self]) (hr.ext hx), rfl⟩
  | .nil k, sh, v', cs, hl, hs, hr => by
    have : v' = .nil k := by cases sh <;> simp [low] at hl <;> exact hl.symm
    subst this
    cases hr
    · exact ⟨.nilp, rfl⟩
    · exact ⟨.nilf, rfl⟩
    · exact ⟨.nili, rfl⟩
    · exact ⟨.nilm, rfl⟩
  | .tup _, sh, v', cs, hl, hs, hr => by cases sh <;> simp [low] at hl
  | .ref _ _ _ _, sh, v', cs, hl, hs, hr => by cases sh <;> simp [low] at hl
  | .vref _ _, sh, v', cs, hl, hs, hr => by cases sh <;> simp [low] at hl
  | .ownv _ _, sh, v', cs, hl, hs, hr => by cases sh <;> simp [low] at hl
  | .fn _ _ _, sh, v', cs, hl, hs, hr => by cases sh <;> simp [low] at hl
  | .void, sh, v', cs, hl, hs, hr => by cases sh <;> simp [low] at hl
  | .undef, sh, v', cs, hl, hs, hr => by cases sh <;> simp [low] at hl
theorem lows_repC (h : HSim ι O w0 hp w) {X1 : Nat → Prop} (hx : Ext ι ι (Ex1 ι hp O) X1 w w) : ∀ (v : List V) {sh : List Sh} {v' : List V} {cs : List Value}, lows hp sh v = some v' → Lent ι hp X1 (idss v) → CReps ι (Ex1 ι hp O) w v cs → CReps no X1 w v' cs
  | [], sh, v', cs, hl, hs, hr => by
    cases hr
    cases sh <;> simp [lows] at hl
    subst hl
    exact .nil
  | v :: l, sh, v', cs, hl, hs, hr => by
    cases sh with
    | nil => simp [lows] at hl
    | cons s sh =>
      simp only [lows] at hl
      cases h1 : low hp s v with
      | none => rw [h1] at hl; cases hl
      | some x =>
        cases h2 : lows hp sh l with
        | none => rw [h1, h2] at hl; cases hl
        | some y =>
          rw [h1, h2] at hl; injection hl with hl; subst hl
          cases hr with
          | cons p q => exact .cons (low_rep h hx v h1 (fun i hi => hs i (by simp [idss, hi])) p).1 (lows_repC h hx l h2 (fun i hi => hs i (by simp [idss, hi])) q)
end
theorem low_repV (h : HSim ι O w0 hp w) {X1 : Nat → Prop} (hx : Ext ι ι (Ex1 ι hp O) X1 w w) {v : V} {sh : Sh} {v' : V} {c : Value} (hl : low hp sh v = some v') (hs : Lent ι hp X1 (ids v)) (hr : VRep ι (Ex1 ι hp O) w v c) : VRep no X1 w v' c := by
  cases hr with
  | one a b => obtain ⟨h1, h2⟩ := low_rep h hx v hl hs a; exact .one h1 (h2.trans b)
  | agg a b => obtain ⟨h1, h2⟩ := low_rep h hx v hl hs a; exact .agg h1 (h2.trans b)
  | tup a => cases sh <;> simp [low] at hl
  | void => cases sh <;> simp [low] at hl
  | undef => cases sh <;> simp [low] at hl
theorem lows_rep (h : HSim ι O w0 hp w) {X1 : Nat → Prop} (hx : Ext ι ι (Ex1 ι hp O) X1 w w) : ∀ (v : List V) {sh : List Sh} {v' : List V} {cs : List Value}, lows hp sh v = some v' → Lent ι hp X1 (idss v) → VReps ι (Ex1 ι hp O) w v cs → VReps no X1 w v' cs
  | [], sh, v', cs, hl, hs, hr => by
    cases hr
    cases sh <;> simp [lows] at hl
    subst hl
    exact .nil
  | v :: l, sh, v', cs, hl, hs, hr => by
    cases sh with
    | nil => simp [lows] at hl
    | cons s sh =>
      simp only [lows] at hl
      cases h1 : low hp s v with
      | none => rw [h1] at hl; cases hl
      | some x =>
        cases h2 : lows hp sh l with
        | none => rw [h1, h2] at hl; cases hl
        | some y =>
          rw [h1, h2] at hl; injection hl with hl; subst hl
          cases hr with
          | cons p q => exact .cons (low_repV h hx h1 (fun i hi => hs i (by simp [idss, hi])) p) (lows_rep h hx l h2 (fun i hi => hs i (by simp [idss, hi])) q)

/-! ### flat values -/
theorem CReps.flat_of {X Y : Nat → Prop} {e : Sh} (hl : ∀ {v cs}, isR e v = true → CRep ι X w v cs → CRep ι Y w v cs) {l : List V} {ds : List Value} (h : CReps ι X w l ds) (he : ∀ x ∈ l, isR e x = true) : CReps ι Y w l ds := by
  induction l generalizing ds with
  | nil => cases h; exact .nil
  | cons x l ih =>
    cases h with
    | cons p q => exact .cons (hl (he x (by simp)) p) (ih q (fun y hy => he y (by simp [hy])))
mutual
theorem flatS_rep {X Y : Nat → Prop} : ∀ {s : Sh} {v : V} {cs : List Value}, flatS s = true → isR s v = true → CRep ι X w v cs → CRep ι Y w v cs
  | .int k, v, cs, hf, h, hr => by cases v <;> simp [isR] at h; cases hr with | int h => exact .int h
  | .bool, v, cs, hf, h, hr => by cases v <;> simp [isR] at h; cases hr; exact .bool
  | .str, v, cs, hf, h, hr => by cases v <;> simp [isR] at h; cases hr; exact .str
  | .bytes, v, cs, hf, h, hr => by cases hf
  | .other k, v, cs, hf, h, hr => by cases hf
  | .rows e, v, cs, hf, h, hr => by cases hf
  | .barr n, v, cs, hf, h, hr => by cases v <;> simp [isR] at h; cases hr with | barr a => exact .barr a
  | .arr n e, v, cs, hf, h, hr => by
    cases v <;> simp [isR] at h
    simp only [flatS] at hf
    cases hr with
    | arr a b c =>
      have := Sh.beq_eq h.2
      subst this
      exact .arr a b (CReps.flat_of (fun p q => flatS_rep hf p q) c b)
  | .agg l, v, cs, hf, h, hr => by cases v <;> simp [isR] at h; cases hr with | agg hr => exact .agg (flatSs_rep hf h hr)
theorem flatSs_rep {X Y : Nat → Prop} : ∀ {s : List Sh} {v : List V} {cs : List Value}, flatSs s = true → isRs s v = true → CReps ι X w v cs → CReps ι Y w v cs
  | [], v, cs, hf, h, hr => by cases v <;> simp [isRs] at h; cases hr; exact .nil
  | a :: s, v, cs, hf, h, hr => by
    cases v with
    | nil => simp [isRs] at h
    | cons x v =>
      simp [isRs] at h
      simp only [flatSs, Bool.and_eq_true] at hf
      cases hr with | cons p q => exact .cons (flatS_rep hf.1 h.1 p) (flatSs_rep hf.2 h.2 q)
end
mutual
theorem flatC_rep {X Y : Nat → Prop} : ∀ (v : V) {cs : List Value}, flatV v = true → CRep ι X w v cs → CRep ι Y w v cs
  | .int k n, cs, hf, hr => by cases hr with | int h => exact .int h
  | .bool b, cs, hf, hr => by cases hr; exact .bool
  | .str b, cs, hf, hr => by cases hr; exact .str
  | .barr n l, cs, hf, hr => by cases hr with | barr h => exact .barr h
  | .nil k, cs, hf, hr => by
    cases hr
    · exact .nilp
    · exact .nilf
    · exact .nili
    · exact .nilm
  | .arr e n l, cs, hf, hr => by
    cases hr with
    | arr a b c => exact .arr a b (CReps.flat_of (fun p q => flatS_rep (by simpa [flatV] using hf) p q) c b)
  | .agg l, cs, hf, hr => by cases hr with | agg hr => exact .agg (flatCs_rep l (by simpa [flatV] using hf) hr)
  | .tup l, cs, hf, hr => by cases hr
  | .nils, cs, hf, hr => by cases hf
  | .bytes _, cs, hf, hr => by cases hf
  | .rows _ _, cs, hf, hr => by cases hf
  | .ref _ _ _ _, cs, hf, hr => by cases hf
  | .vref _ _, cs, hf, hr => by cases hf
  | .own _ _ _, cs, hf, hr => by cases hf
  | .ownv _ _, cs, hf, hr => by cases hr
  | .fn _ _ _, cs, hf, hr => by cases hf
  | .void, cs, hf, hr => by cases hf
  | .undef, cs, hf, hr => by cases hf
theorem flatCs_rep {X Y : Nat → Prop} : ∀ (v : List V) {cs : List Value}, flatVs v = true → CReps ι X w v cs → CReps ι Y w v cs
  | [], cs, hf, hr => by cases hr; exact .nil
  | v :: l, cs, hf, hr => by
    simp only [flatVs, Bool.and_eq_true] at hf
    cases hr with | cons p q => exact .cons (flatC_rep v hf.1 p) (flatCs_rep l hf.2 q)
end
mutual
theorem flatV_rep {X Y : Nat → Prop} : ∀ (v : V) {c : Value}, flatV v = true → VRep ι X w v c → VRep ι Y w v c
  | .tup l, c, hf, hr => by obtain ⟨cs, rfl, h⟩ := hr.tup_inv; exact .tup (flatVs_rep l (by simpa [flatV] using hf) h)
  | .int k n, c, hf, hr => by cases hr with | one a b => exact .one (flatC_rep _ hf a) b | agg a b => exact .agg (flatC_rep _ hf a) b
  | .bool _, c, hf, hr => by cases hr with | one a b => exact .one (flatC_rep _ hf a) b | agg a b => exact .agg (flatC_rep _ hf a) b
  | .str _, c, hf, hr => by cases hr with | one a b => exact .one (flatC_rep _ hf a) b | agg a b => exact .agg (flatC_rep _ hf a) b
  | .barr _ _, c, hf, hr => by cases hr with | one a b => exact .one (flatC_rep _ hf a) b | agg a b => exact .agg (flatC_rep _ hf a) b
  | .nil _, c, hf, hr => by cases hr with | one a b => exact .one (flatC_rep _ hf a) b | agg a b => exact .agg (flatC_rep _ hf a) b
  | .arr _ _ _, c, hf, hr => by cases hr with | one a b => exact .one (flatC_rep _ hf a) b | agg a b => exact .agg (flatC_rep _ hf a) b
  | .agg _, c, hf, hr => by cases hr with | one a b => exact .one (flatC_rep _ hf a) b | agg a b => exact .agg (flatC_rep _ hf a) b
  | .ownv _ _, c, hf, hr => by cases hr with | one a b => cases a | agg a b => cases a
  | .nils, c, hf, hr => by cases hf
  | .bytes _, c, hf, hr => by cases hf
  | .rows _ _, c, hf, hr => by cases hf
  | .ref _ _ _ _, c, hf, hr => by cases hf
  | .vref _ _, c, hf, hr => by cases hf
  | .own _ _ _, c, hf, hr => by cases hf
  | .fn _ _ _, c, hf, hr => by cases hf
  | .void, c, hf, hr => by cases hf
  | .undef, c, hf, hr => by cases hf
theorem flatVs_rep {X Y : Nat → Prop} : ∀ (v : List V) {cs : List Value}, flatVs v = true → VReps ι X w v cs → VReps ι Y w v cs
  | [], cs, hf, hr => by cases hr; exact .nil
  | v :: l, cs, hf, hr => by
    simp only [flatVs, Bool.and_eq_true] at hf
    cases hr with | cons p q => exact .cons (flatV_rep v hf.1 p) (flatVs_rep l hf.2 q)
end
theorem RowC.flat {X Y : Nat → Prop} {n : Nat} {e : Sh} {v : V} {ds : List Value} {T : TypeId} (h : RowC ι X w n e v ds) (hf : flatV (.ownv T v) = true) : RowC ι Y w n e v ds := by
  cases h with
  | bytes => exact .bytes
  | rows he hr => exact .rows he (CReps.flat_of (fun p q => flatS_rep (by simpa [flatV] using hf) p q) hr he)
end
end Go.Am
