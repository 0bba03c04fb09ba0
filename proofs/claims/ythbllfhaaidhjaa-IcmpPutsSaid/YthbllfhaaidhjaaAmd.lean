/- The abstract machine, fourth part: its memory, step by step. -/
import Derived.Test.YthbllfhaaidhjaaAmc
namespace Go.Am
open Go Go.RowKit Go.Bas
def updH : List (Nat × Option Blk) → (Nat → Option Blk) → Nat → Option Blk
  | [], hp, id => hp id
  | (a, v) :: r, hp, id => if a = id then v else updH r hp id
def updI (ι : Nat → Option Cn) (n : Nat) (c : Cn) : Nat → Option Cn := fun i => if i = n then some c else ι i
section
variable {ι ι' : Nat → Option Cn} {O : Nat → Prop} {w0 : Zone} {w w' : World} {hp hp' : Nat → Option Blk}
theorem lookH_append (wr : List (Nat × Option Blk)) (l : List (Nat × Option Blk)) : lookH (wr ++ l) = updH wr (lookH l) := by
  induction wr with
  | nil => rfl
  | cons a wr ih =>
    funext id
    obtain ⟨x, v⟩ := a
    simp only [List.cons_append, lookH, updH, ih]
    by_cases h : x = id
    · subst h; simp
    · have hb : Nat.beq x id = false := Bool.eq_false_iff.2 (fun hb => h (Nat.eq_of_beq_eq_true hb))
      rw [if_neg h, hb]; rfl
theorem io_upd {n : Nat} {c : Cn} (hn : ι n = none) : ∀ id k, ι id = some k → updI ι n c id = some k := by
  intro id k h
  unfold updI
  rw [if_neg (by rintro rfl; rw [hn] at h; cases h)]
  exact h
theorem updI_self {n : Nat} {c : Cn} : updI ι n c n = some c := if_pos rfl
theorem HSim.known (h : HSim ι O w0 hp w) {id : Nat} {k : Blk} (hk : hp id = some k) : ∃ c, ι id = some c := by
  cases h.blk id k hk with
  | var hi => exact ⟨_, hi⟩
  | row hi => exact ⟨_, hi⟩
  | view hi => exact ⟨_, hi⟩
theorem HSim.size (h : HSim ι O w0 hp w) : w0.w.heap.size ≤ w.heap.size := h.below.size
theorem HSim.mine_not_outer (h : HSim ι O w0 hp w) {id b : Nat} (hm : Mine ι hp id b) : ¬ O b := fun ho => (h.fresh id b hm).1 (h.outer b ho)
theorem ownsRow_same {base : Nat} {T : TypeId} {size n c m : Nat} {A : Option Addr} {ds : List Value} (h : w.ownsRow base T size (.slice A n c) m ds) (hs : ∀ a, A = some a → w'.heap[a.block]? = w.heap[a.block]?) : w'.ownsRow base T size (.slice A n c) m ds := by
  refine ⟨h.1, ?_⟩
  rcases h.2 with h1 | ⟨g, cap, cur, e, hb, hg, r⟩
  · exact .inl h1
  · injection e with e1 e2 e3
    exact .inr ⟨g, cap, cur, by rw [e1, e2, e3], hb, (hs _ e1).trans hg, r⟩
theorem ownsRow_lt {base : Nat} {T : TypeId} {size n c m : Nat} {a : Addr} {ds : List Value} (h : w.ownsRow base T size (.slice (some a) n c) m ds) : base ≤ a.block ∧ a.block < w.heap.size := by
  rcases h.2 with ⟨h1, _⟩ | ⟨g, cap, cur, e, hb, hg, r⟩
  · cases h1
  · injection e with e1 e2 e3
    injection e1 with e1
    subst e1
    exact ⟨hb, (Array.getElem?_eq_some_iff.1 hg).1⟩
/-- the memory after a step: T are the blocks that were written -/
theorem HSim.upd (h : HSim ι O w0 hp w) (T : Nat → Prop) (he : Ext ι ι' (Ex1 ι hp O) (Ex1 ι' hp' O) w w') (hb : Keeps w0.old w w')
    (hT : ∀ b, b < w.heap.size → ¬ T b → w'.heap[b]? = w.heap[b]?)
    (hk : ∀ id k, hp' id = some k → (hp id = some k ∧ ∀ b, Mine ι hp id b → ¬ T b) ∨ BRep ι' (Ex1 ι' hp' O) w' id k)
    (h1 : ∀ id id' b, Mine ι' hp' id b → Mine ι' hp' id' b → id = id') (hf : ∀ id b, Mine ι' hp' id b → ¬ w0.old b ∧ b < w'.heap.size) : HSim ι' O w0 hp' w' := by
  refine ⟨h.below.trans hb, h.old_lt, h.outer, fun id k hq => ?_, h1, hf⟩
  rcases hk id k hq with ⟨h2, h3⟩ | h2
  · cases h.blk id k h2 with
    | var hi hs hg hr =>
      rename_i sh v g ds ty
      have hm : Mine ι hp id g := ⟨_, _, h2, rfl, hi, rfl⟩
      have := hT g (h.fresh id g hm).2 (h3 g hm)
      refine .var (he.io _ _ hi) hs (?_ : Bas.Blk w' g ty ds) (hr.ext he)
      unfold Bas.Blk at *
      rw [this]; exact hg
    | row hi hr ho =>
      rename_i ty sh v A n c ds
      refine .row (he.io _ _ hi) (hr.ext he) (ownsRow_same ho fun a ha => ?_)
      subst ha
      have hm : Mine ι hp id a.block := ⟨_, _, h2, rfl, hi, rfl⟩
      exact hT _ (h.fresh id _ hm).2 (h3 _ hm)
    | view hi hr hw hs => exact .view (he.io _ _ hi) (hr.ext he) hw hs
  · exact h2
/-- nothing of the call's own changes, the world goes on -/
theorem HSim.pass (h : HSim ι O w0 hp w) (hb : Below w.heap.size w w') : HSim ι O w0 hp w' ∧ Ext ι ι (Ex1 ι hp O) (Ex1 ι hp O) w w' := by
  have he : Ext ι ι (Ex1 ι hp O) (Ex1 ι hp O) w w' := ⟨hb.size, fun _ _ h => h, fun b hlt _ => hb.block b hlt, fun _ h => .inl h⟩
  exact ⟨h.upd (fun _ => False) he (h.keeps hb) (fun b hlt _ => hb.block b hlt) (fun id k hk => .inl ⟨hk, fun _ _ h => h⟩) h.one (fun id b hm => ⟨(h.fresh id b hm).1, Nat.lt_of_lt_of_le (h.fresh id b hm).2 hb.size⟩), he⟩
theorem updH_one {a : Nat} {v : Option Blk} {id : Nat} : updH [(a, v)] hp id = if a = id then v else hp id := rfl
/-- a new block of the call's own: a variable -/
theorem HSim.newVar (h : HSim ι O w0 hp w) {nid : Nat} (hn : ι nid = none) (sh : Sh) (v : V) (ds : List Value) (ty : TypeId) (hs : isSh sh v = true) (hr : CRep ι (Ex1 ι hp O) w v ds) :
    HSim (updI ι nid (.var w.heap.size sh)) O w0 (updH [(nid, some (.var sh v))] hp) (w.alloc (.cells ds.toArray ty)) ∧
    Ext ι (updI ι nid (.var w.heap.size sh)) (Ex1 ι hp O) (Ex1 (updI ι nid (.var w.heap.size sh)) (updH [(nid, some (.var sh v))] hp) O) w (w.alloc (.cells ds.toArray ty)) := by
  have hsz : (w.alloc (.cells ds.toArray ty)).heap.size = w.heap.size + 1 := by simp
  have hno : hp nid = none := by
    cases hq : hp nid with
    | none => rfl
    | some k => obtain ⟨c, hc⟩ := h.known hq; rw [hn] at hc; cases hc
  have mine : ∀ id b, Mine (updI ι nid (.var w.heap.size sh)) (updH [(nid, some (.var sh v))] hp) id b → (id = nid ∧ b = w.heap.size) ∨ (id ≠ nid ∧ Mine ι hp id b) := by
    rintro id b ⟨k, c, h1, h2, h3, h4⟩
    by_cases hid : id = nid
    · subst hid
      rw [updI_self] at h3
      injection h3 with h3; subst h3
      injection h4 with h4
      exact .inl ⟨rfl, h4.symm⟩
    · rw [updH_one, if_neg (Ne.symm hid)] at h1
      unfold updI at h3; rw [if_neg hid] at h3
      exact .inr ⟨hid, k, c, h1, h2, h3, h4⟩
  have he : Ext ι (updI ι nid (.var w.heap.size sh)) (Ex1 ι hp O) (Ex1 (updI ι nid (.var w.heap.size sh)) (updH [(nid, some (.var sh v))] hp) O) w (w.alloc (.cells ds.toArray ty)) := by
    refine ⟨by omega, io_upd hn, fun b hb _ => Below.heap_alloc w _ b hb, fun b hb => ?_⟩
    rcases hb with hb | ⟨id, hm⟩
    · exact .inl (.inl hb)
    · rcases mine id b hm with ⟨_, rfl⟩ | ⟨_, hm⟩
      · exact .inr (Nat.le_refl _)
      · exact .inl (.inr ⟨id, hm⟩)
  refine ⟨h.upd (fun _ => False) he (h.keeps ((Below.refl _ _).alloc (Nat.le_refl _) _)) (fun b hb _ => Below.heap_alloc w _ b hb) ?_ ?_ ?_, he⟩
  · intro id k hk
    by_cases hid : nid = id
    · subst hid
      rw [updH_one, if_pos rfl] at hk
      injection hk with hk; subst hk
      exact .inr (.var updI_self hs (Bas.Blk.new w ty ds) (hr.ext he))
    · rw [updH_one, if_neg hid] at hk
      exact .inl ⟨hk, fun _ _ h => h⟩
  · intro id id' b h1 h2
    rcases mine id b h1 with ⟨rfl, rfl⟩ | ⟨a1, a2⟩
    · rcases mine id' _ h2 with ⟨rfl, _⟩ | ⟨b1, b2⟩
      · rfl
      · have := (h.fresh id' _ b2).2; omega
    · rcases mine id' b h2 with ⟨rfl, rfl⟩ | ⟨b1, b2⟩
      · have := (h.fresh id _ a2).2; omega
      · exact h.one id id' b a2 b2
  · intro id b hm
    rcases mine id b hm with ⟨_, rfl⟩ | ⟨_, hm⟩
    · exact ⟨fun ho => by have := h.lt ho; omega, by omega⟩
    · have := h.fresh id b hm; exact ⟨this.1, by omega⟩
/-- a row that is handed over, or made, by a step which writes to no block of the call's own but those of 'dead' -/
theorem HSim.newRow (h : HSim ι O w0 hp w) {nid : Nat} (hn : ι nid = none) (dead : List Nat) (T : TypeId) (sh : Sh) (v : V) {A : Option Addr} {n c : Nat} {ds : List Value}
    (hb : Keeps w0.old w w') (hTw : ∀ b, b < w.heap.size → (∀ id, id ∈ dead → ¬ Mine ι hp id b) → w'.heap[b]? = w.heap[b]?)
    (hA : ∀ a, A = some a → (∃ id, id ∈ dead ∧ Mine ι hp id a.block) ∨ w.heap.size ≤ a.block)
    (ho : w'.ownsRow 0 T sh.size (.slice A n c) n ds) :
    Ext ι (updI ι nid (.row A n c T sh)) (Ex1 ι hp O) (Ex1 (updI ι nid (.row A n c T sh)) (updH (dead.map (fun i => (i, none)) ++ [(nid, some (.row T sh v))]) hp) O) w w' ∧
    (∀ b, Ex1 (updI ι nid (.row A n c T sh)) (updH (dead.map (fun i => (i, none)) ++ [(nid, some (.row T sh v))]) hp) O b → Ex1 ι hp O b ∨ A.map (·.block) = some b) ∧
    (RowC (updI ι nid (.row A n c T sh)) (Ex1 (updI ι nid (.row A n c T sh)) (updH (dead.map (fun i => (i, none)) ++ [(nid, some (.row T sh v))]) hp) O) w' n sh v ds →
      HSim (updI ι nid (.row A n c T sh)) O w0 (updH (dead.map (fun i => (i, none)) ++ [(nid, some (.row T sh v))]) hp) w') := by
  have hno : hp nid = none := by
    cases hq : hp nid with
    | none => rfl
    | some k => obtain ⟨c, hc⟩ := h.known hq; rw [hn] at hc; cases hc
  have hup : ∀ id, updH (dead.map (fun i => (i, none)) ++ [(nid, some (.row T sh v))]) hp id = if id ∈ dead then none else if nid = id then some (.row T sh v) else hp id := by
    intro id
    clear hTw hA
    induction dead with
    | nil => simp [updH]
    | cons a dead ih =>
      simp only [List.map_cons, List.cons_append, updH, ih, List.mem_cons]
      by_cases ha : a = id
      · subst ha; simp
      · rw [if_neg ha]
        have : (id = a ∨ id ∈ dead) ↔ id ∈ dead := ⟨fun h => h.elim (fun h => absurd h.symm ha) (fun h => h), .inr⟩
        simp only [this]
  have mine : ∀ id b, Mine (updI ι nid (.row A n c T sh)) (updH (dead.map (fun i => (i, none)) ++ [(nid, some (.row T sh v))]) hp) id b → (id = nid ∧ id ∉ dead ∧ A.map (·.block) = some b) ∨ (id ≠ nid ∧ id ∉ dead ∧ Mine ι hp id b) := by
    rintro id b ⟨k, cc, h1, h2, h3, h4⟩
    rw [hup] at h1
    by_cases hd : id ∈ dead
    · rw [if_pos hd] at h1; cases h1
    · rw [if_neg hd] at h1
      by_cases hid : id = nid
      · subst hid
        rw [updI_self] at h3
        injection h3 with h3; subst h3
        refine .inl ⟨rfl, hd, ?_⟩
        cases A with
        | none => cases h4
        | some a => injection h4 with h4; subst h4; rfl
      · rw [if_neg (Ne.symm hid)] at h1
        unfold updI at h3; rw [if_neg hid] at h3
        exact .inr ⟨hid, hd, k, cc, h1, h2, h3, h4⟩
  have he : Ext ι (updI ι nid (.row A n c T sh)) (Ex1 ι hp O) (Ex1 (updI ι nid (.row A n c T sh)) (updH (dead.map (fun i => (i, none)) ++ [(nid, some (.row T sh v))]) hp) O) w w' := by
    refine ⟨hb.size, io_upd hn, fun b hlt hx => hTw b hlt fun id _ hm => hx (.inr ⟨id, hm⟩), fun b hx => ?_⟩
    rcases hx with hx | ⟨id, hm⟩
    · exact .inl (.inl hx)
    · rcases mine id b hm with ⟨_, _, e⟩ | ⟨_, _, hm⟩
      · cases A with
        | none => cases e
        | some a =>
          injection e with e; subst e
          rcases hA a rfl with ⟨id', _, hm'⟩ | hlt
          · exact .inl (.inr ⟨id', hm'⟩)
          · exact .inr hlt
      · exact .inl (.inr ⟨id, hm⟩)
  have hsub : ∀ b, Ex1 (updI ι nid (.row A n c T sh)) (updH (dead.map (fun i => (i, none)) ++ [(nid, some (.row T sh v))]) hp) O b → Ex1 ι hp O b ∨ A.map (·.block) = some b := by
    rintro b (hx | ⟨id, hm⟩)
    · exact .inl (.inl hx)
    · rcases mine id b hm with ⟨_, _, e⟩ | ⟨_, _, hm⟩
      · exact .inr e
      · exact .inl (.inr ⟨id, hm⟩)
  refine ⟨he, hsub, fun hr => h.upd (fun b => ∃ id, id ∈ dead ∧ Mine ι hp id b) he hb (fun b hlt hx => hTw b hlt fun id hid hm => hx ⟨id, hid, hm⟩) ?_ ?_ ?_⟩
  · intro id k hk
    rw [hup] at hk
    by_cases hd : id ∈ dead
    · rw [if_pos hd] at hk; cases hk
    · rw [if_neg hd] at hk
      by_cases hid : nid = id
      · subst hid
        rw [if_pos rfl] at hk
        injection hk with hk; subst hk
        exact .inr (.row updI_self hr ho)
      · rw [if_neg hid] at hk
        refine .inl ⟨hk, ?_⟩
        rintro b hm ⟨id', hid', hm'⟩
        have := h.one _ _ _ hm hm'
        subst this
        exact hd hid'
  · intro id id' b h1 h2
    have far : ∀ {i j : Nat}, i ≠ nid → i ∉ dead → Mine ι hp i b → A.map (·.block) = some b → False := by
      intro i j hi hd hm e
      cases A with
      | none => cases e
      | some a =>
        injection e with e; subst e
        rcases hA a rfl with ⟨k, hk, hm'⟩ | hlt
        · have := h.one _ _ _ hm hm'; subst this; exact hd hk
        · exact absurd (h.fresh i a.block hm).2 (Nat.not_lt.2 hlt)
    rcases mine id b h1 with ⟨rfl, _, a1⟩ | ⟨a1, a2, a3⟩
    · rcases mine id' b h2 with ⟨rfl, _, _⟩ | ⟨b1, b2, b3⟩
      · rfl
      · exact (far (j := 0) b1 b2 b3 a1).elim
    · rcases mine id' b h2 with ⟨rfl, _, b1⟩ | ⟨b1, b2, b3⟩
      · exact (far (j := 0) a1 a2 a3 b1).elim
      · exact h.one id id' b a3 b3
  · intro id b hm
    rcases mine id b hm with ⟨_, _, e⟩ | ⟨_, _, hm⟩
    · cases A with
      | none => cases e
      | some a =>
        injection e with e; subst e
        refine ⟨fun hold => ?_, (ownsRow_lt ho).2⟩
        rcases hA a rfl with ⟨id', _, hm'⟩ | hlt
        · exact (h.fresh _ _ hm').1 hold
        · exact absurd (h.lt hold) (Nat.not_lt.2 hlt)
    · have := h.fresh id b hm; exact ⟨this.1, Nat.lt_of_lt_of_le this.2 hb.size⟩
/-- a block of the call's own is written -/
theorem HSim.write (h : HSim ι O w0 hp w) {id : Nat} {k k' : Blk} (hk : hp id = some k) (hv : isView k = false) (hb : Keeps w0.old w w') (hsz : w'.heap.size = w.heap.size)
    (hTw : ∀ b, b < w.heap.size → ¬ Mine ι hp id b → w'.heap[b]? = w.heap[b]?) :
    Ext ι ι (Ex1 ι hp O) (Ex1 ι (updH [(id, some k')] hp) O) w w' ∧
    (BRep ι (Ex1 ι (updH [(id, some k')] hp) O) w' id k' → HSim ι O w0 (updH [(id, some k')] hp) w') := by
  have mine : ∀ i b, Mine ι (updH [(id, some k')] hp) i b → Mine ι hp i b := by
    rintro i b ⟨kk, c, h1, h2, h3, h4⟩
    rw [updH_one] at h1
    by_cases hi : id = i
    · subst hi
      exact ⟨k, c, hk, hv, h3, h4⟩
    · rw [if_neg hi] at h1
      exact ⟨kk, c, h1, h2, h3, h4⟩
  have he : Ext ι ι (Ex1 ι hp O) (Ex1 ι (updH [(id, some k')] hp) O) w w' := by
    refine ⟨by omega, fun _ _ h => h, fun b hlt hx => hTw b hlt fun hm => hx (.inr ⟨id, hm⟩), fun b hx => ?_⟩
    rcases hx with hx | ⟨i, hm⟩
    · exact .inl (.inl hx)
    · exact .inl (.inr ⟨i, mine i b hm⟩)
  refine ⟨he, fun hB => h.upd (fun b => Mine ι hp id b) he hb hTw ?_ ?_ ?_⟩
  · intro i kk hq
    rw [updH_one] at hq
    by_cases hi : id = i
    · subst hi
      rw [if_pos rfl] at hq
      injection hq with hq; subst hq
      exact .inr hB
    · rw [if_neg hi] at hq
      exact .inl ⟨hq, fun b hm hm' => hi (h.one _ _ _ hm' hm)⟩
  · intro i i' b h1 h2
    exact h.one i i' b (mine i b h1) (mine i' b h2)
  · intro i b hm
    have := h.fresh i b (mine i b hm)
    exact ⟨this.1, by omega⟩
/-- a row reads as a slice -/
theorem row_view {X : Nat → Prop} {base n c : Nat} {sh : Sh} {T : TypeId} {A : Option Addr} {v : V} {ds : List Value} (hr : RowC ι X w n sh v ds) (ho : w.ownsRow base T sh.size (.slice A n c) n ds) (hx : ∀ b, A.map (·.block) = some b → ¬ X b) :
    CRep ι X w v [.slice A n c] := by
  cases hr with
  | bytes =>
    rename_i l
    have hown : Own w base T A l.length c l := ⟨rfl, ho⟩
    exact .bytes hown.bs fun _ b off e => hx b (by rw [e]; rfl)
  | rows he hr =>
    rename_i l
    rcases ho.2 with ⟨e, h0⟩ | ⟨g, cap, cur, e, hb, hg, hn, hm, hs, ht⟩
    · injection e with e1 e2 e3
      subst e1; subst e3
      refine .rows rfl (by omega) (by omega) he hr fun hl => ?_
      exact absurd (List.eq_nil_of_length_eq_zero h0) hl
    · injection e with e1 e2 e3
      subst e1; subst e3
      refine .rows rfl hn (by simpa [maxLen] using hm) he hr fun _ => ⟨g, 0, rfl, hx g rfl, (Array.getElem?_eq_some_iff.1 hg).1, fun j v hj => ?_⟩
      rw [Nat.zero_add, cell_of_row w g j cur T (0, 0) hg, ← Array.getElem?_toList]
      rw [← ht, List.getElem?_take] at hj
      split at hj
      · exact hj
      · cases hj
/-- rows are read alone from now on -/
theorem HSim.seal_one (h : HSim ι O w0 hp w) (id : Nat) :
    HSim ι O w0 (updH [(id, (hp id).map toView)] hp) w ∧ Ext ι ι (Ex1 ι hp O) (Ex1 ι (updH [(id, (hp id).map toView)] hp) O) w w := by
  have mine : ∀ i b, Mine ι (updH [(id, (hp id).map toView)] hp) i b → Mine ι hp i b := by
    rintro i b ⟨kk, c, h1, h2, h3, h4⟩
    rw [updH_one] at h1
    by_cases hi : id = i
    · subst hi
      rw [if_pos rfl] at h1
      cases hq : hp id with
      | none => rw [hq] at h1; cases h1
      | some k =>
        rw [hq] at h1
        injection h1 with h1; subst h1
        cases k with
        | var => exact ⟨_, c, hq, rfl, h3, h4⟩
        | row => cases h2
        | view => cases h2
    · rw [if_neg hi] at h1
      exact ⟨kk, c, h1, h2, h3, h4⟩
  have he : Ext ι ι (Ex1 ι hp O) (Ex1 ι (updH [(id, (hp id).map toView)] hp) O) w w := by
    refine ⟨Nat.le_refl _, fun _ _ h => h, fun b _ _ => rfl, fun b hx => ?_⟩
    rcases hx with hx | ⟨i, hm⟩
    · exact .inl (.inl hx)
    · exact .inl (.inr ⟨i, mine i b hm⟩)
  refine ⟨h.upd (fun _ => False) he (Keeps.refl _ _) (fun _ _ _ => rfl) ?_ (fun i i' b h1 h2 => h.one i i' b (mine i b h1) (mine i' b h2)) (fun i b hm => h.fresh i b (mine i b hm)), he⟩
  intro i kk hq
  rw [updH_one] at hq
  by_cases hi : id = i
  · subst hi
    rw [if_pos rfl] at hq
    obtain ⟨k, hk, rfl⟩ := Option.map_eq_some_iff.1 hq
    cases k with
    | var sh v => exact .inl ⟨hk, fun _ _ h => h⟩
    | view v => exact .inl ⟨hk, fun _ _ h => h⟩
    | row T sh v =>
      cases h.blk id _ hk with
      | row hi hr ho =>
        refine .inr (.view hi (row_view (hr.ext he) ho ?_) hr.isRow hr.elSh)
        rename_i A n c ds
        intro b hA hx
        cases A with
        | none => cases hA
        | some a =>
          injection hA with hA; subst hA
          have hm : Mine ι hp id a.block := ⟨_, _, hk, rfl, hi, rfl⟩
          rcases hx with hx | ⟨i, hm'⟩
          · exact h.mine_not_outer hm hx
          · have e := h.one _ _ _ hm (mine i _ hm')
            subst e
            obtain ⟨kk, c', h1, h2, _, _⟩ := hm'
            rw [updH_one, if_pos rfl, hk] at h1
            injection h1 with h1; subst h1
            cases h2
  · rw [if_neg hi] at hq
    exact .inl ⟨hq, fun _ _ h => h⟩
theorem updH_cons (a : Nat) (v : Option Blk) (r : List (Nat × Option Blk)) : updH ((a, v) :: r) hp = updH [(a, v)] (updH r hp) := by
  funext id
  simp only [updH]
theorem toView_idem (k : Blk) : toView (toView k) = toView k := by cases k <;> rfl
theorem seal_at (l : List Nat) (id : Nat) : updH (sealB hp l) hp id = if id ∈ l then (hp id).map toView else hp id := by
  induction l with
  | nil => rfl
  | cons a l ih =>
    show (if a = id then (hp a).map toView else updH (sealB hp l) hp id) = _
    rw [ih]
    by_cases h : a = id
    · subst h; simp
    · rw [if_neg h]
      have : (id ∈ a :: l) ↔ id ∈ l := by simp [Ne.symm h]
      simp only [this]
theorem HSim.seals (h : HSim ι O w0 hp w) (l : List Nat) :
    HSim ι O w0 (updH (sealB hp l) hp) w ∧ Ext ι ι (Ex1 ι hp O) (Ex1 ι (updH (sealB hp l) hp) O) w w := by
  induction l with
  | nil => exact ⟨h, Ext.refl⟩
  | cons a l ih =>
    have h1 := ih.1.seal_one a
    have e : updH [(a, (updH (sealB hp l) hp a).map toView)] (updH (sealB hp l) hp) = updH (sealB hp (a :: l)) hp := by
      funext id
      rw [updH_one, seal_at, seal_at, seal_at]
      by_cases h : a = id
      · subst h
        simp only [if_true, List.mem_cons, true_or]
        by_cases ha : a ∈ l
        · rw [if_pos ha]
          cases hp a with
          | none => rfl
          | some k => simp [toView_idem]
        · rw [if_neg ha]
      · rw [if_neg h]
        have : (id ∈ a :: l) ↔ id ∈ l := by simp [Ne.symm h]
        simp only [this]
    rw [e] at h1
    exact ⟨h1.1, ih.2.trans h1.2⟩
end
end Go.Am
