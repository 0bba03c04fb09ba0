/- The abstract machine: a region that draws its order, in a world. -/
import Derived.Test.YthbllfhaaidhjaaAms
namespace Go.Am
open Go Go.RowKit Go.Bas
section
variable {E : Env} {all : List Oper} {ι : Nat → Option Cn} {O : Nat → Prop} {w0 : Zone} {w : World} {a : Act} {its : Nat → It} {s0 : S} {n : Nat} {p : Nat → Bool}
theorem VRep.void_inv {X : Nat → Prop} {c : Value} (h : VRep ι X w .void c) : c = Go.undef := by
  cases h with
  | void => rfl
  | one h _ => cases h
  | agg h _ => cases h
theorem Sim.getD_get {s : S} (h : Sim ι O w0 s a w) {t : Nat} (ht : t < s.n) : a.tmps[t]? = some (a.tmps.getD t Go.undef) := by
  have : t < a.tmps.size := by rw [h.size]; exact ht
  simp [Array.getD_eq_getD_getElem?, Array.getElem?_eq_getElem this]
theorem Sim.yields {s : S} (h : Sim ι O w0 s a w) {j t : Nat} (hj : (nthL all j).bind (·.dst) = some t) :
    (∀ b, look s.sl t = some (.bool b) → yielded all.toArray a.tmps j = some b) ∧ (look s.sl t = some .void → yielded all.toArray a.tmps j = none) := by
  have hd : (all.toArray[j]?).bind (·.dst) = some t := by rw [← hj, nthL_eq]; simp
  constructor
  · intro b hb
    obtain ⟨h1, h2⟩ := h.slots t _ hb
    have := h2.bool_inv
    unfold yielded
    rw [hd, Option.bind_some, h.getD_get h1, this]
  · intro hb
    obtain ⟨h1, h2⟩ := h.slots t _ hb
    have hu := h2.void_inv
    unfold yielded
    rw [hd, Option.bind_some, h.getD_get h1, hu]
    rfl
theorem Sim.eqv {s s' : S} (h : Sim ι O w0 s a w) (e : Eqv s s') (hn : s'.nx = s.nx) : Sim ι O w0 s' a w := by
  have hh : lookH s.hp = lookH s'.hp := funext e.hp
  have hx : XS ι O s' = XS ι O s := by unfold XS; rw [hh]
  exact ⟨⟨by rw [← hh]; exact h.mem, by rw [hn]; exact h.fresh⟩, by rw [← e.n]; exact h.size, fun t v hv => by
    rw [← e.sl] at hv
    rw [← e.n, hx]
    exact h.slots t v hv, h.defers⟩
/-- the state when those of p have come up, its numbers counted from above -/
def sD (its : Nat → It) (s0 : S) (n : Nat) (p : Nat → Bool) : S := { stN its s0 p n with nx := s0.nx + n, ob := true }
structure SimD (ι : Nat → Option Cn) (O : Nat → Prop) (w0 : Zone) (its : Nat → It) (s0 : S) (n : Nat) (p : Nat → Bool) (a : Act) (w : World) : Prop where
  sim : Sim ι O w0 (sD its s0 n p) a w
  fresh : ∀ j, j < n → p j = false → ι (s0.nx + j) = none
def add (p : Nat → Bool) (i : Nat) : Nat → Bool := fun j => p j || Nat.beq j i
theorem opD_ok (hE : EnvOk E) {i : Nat} {o : Oper} (ho : all[i]? = some o) (hi : i < n) (hp : p i = false) (hM : Makes E all (s0.nx + i) o (stN its s0 p n) (its i)) (hl : Eqv (effI (its i) (stN its s0 p n)) (stN its s0 (add p i) n)) (hs : SimD ι O w0 its s0 n p a w)
    {Q : Exit → Act → World → Prop} {K : Act → World → Prop} (hK : ∀ ι' a' w', SimD ι' O w0 its s0 n (add p i) a' w' → Ext ι ι' (XS ι O (sD its s0 n p)) (XS ι' O (sD its s0 n (add p i))) w w' → K a' w') :
    wpOp E.P all.toArray Q i K a w := by
  have hM' : Makes E all (s0.nx + i) o (sD its s0 n p) (its i) := hM.eqv ⟨fun _ => rfl, fun _ => rfl, rfl⟩
  have hdok : dstOk (sD its s0 n p).n o.dst = true := hM'.dok
  have hopt : all.toArray[i]? = some o := by simpa using ho
  have hl' : Eqv { effI (its i) (sD its s0 n p) with nx := s0.nx + n } (sD its s0 n (add p i)) := Eqv.trans (s2 := effI (its i) (stN its s0 p n)) ⟨fun _ => rfl, fun _ => rfl, rfl⟩ (Eqv.trans hl ⟨fun _ => rfl, fun _ => rfl, rfl⟩)
  have hxs : ∀ ι', XS ι' O { effI (its i) (sD its s0 n p) with nx := s0.nx + n } = XS ι' O (sD its s0 n (add p i)) := fun ι' => by
    unfold XS; rw [show lookH ({ effI (its i) (sD its s0 n p) with nx := s0.nx + n } : S).hp = lookH (sD its s0 n (add p i)).hp from funext hl'.hp]
  have hadd : ∀ j, add p i j = false → p j = false ∧ j ≠ i := by
    intro j hj
    simp only [add, Bool.or_eq_false_iff] at hj
    exact ⟨hj.1, fun e => by subst e; simp at hj⟩
  -- the operation has been done: the state that follows
  have fin : ∀ {c : Value} {w' : World}, (its i).dst = o.dst → Post ι O w0 (lookH (sD its s0 n p).hp) w (s0.nx + i) (its i).v (its i).wr w' c → K (a.put o.dst c) w' := by
    rintro c w' hdst ⟨ι', q1, q2, q3, q4⟩
    have e : lookH ({ effI (its i) (sD its s0 n p) with nx := s0.nx + n } : S).hp = updH (its i).wr (lookH (sD its s0 n p).hp) := by
      show lookH ((its i).wr ++ (sD its s0 n p).hp) = _
      exact lookH_append _ _
    have hx : XS ι' O { effI (its i) (sD its s0 n p) with nx := s0.nx + n } = Ex1 ι' (updH (its i).wr (lookH (sD its s0 n p).hp)) O := by unfold XS; rw [e]
    have he : Ext ι ι' (XS ι O (sD its s0 n p)) (XS ι' O { effI (its i) (sD its s0 n p) with nx := s0.nx + n }) w w' := by rw [hx]; exact q2
    have hsim : Sim ι' O w0 { effI (its i) (sD its s0 n p) with nx := s0.nx + n } (a.put o.dst c) w' := by
      refine hs.sim.put' (d := o.dst) (v := (its i).v) hdok ⟨by rw [e]; exact q1, fun id hid => ?_⟩ he (by rw [hx]; exact q3) (by show put (sD its s0 n p).sl (its i).dst (its i).v = _; rw [hdst]) rfl
      have hid : s0.nx + n ≤ id := hid
      rw [q4 id (by omega)]
      exact hs.sim.fresh id hid
    refine hK ι' _ _ ⟨hsim.eqv hl' rfl, fun j hj hpj => ?_⟩ (by rw [← hxs]; exact he)
    obtain ⟨h1, h2⟩ := hadd j hpj
    rw [q4 _ (by omega)]
    exact hs.fresh j hj h1
  unfold wpOp
  rw [hopt]
  show if Region.wanted o (yielded all.toArray a.tmps) then _ else _
  rcases hM'.run with ⟨g, vs, r, a1, a2, a3, a4, a5, a6, a7⟩ | ⟨⟨j, want, t, g1, g2, g3⟩, b1, b2, b3⟩
  · have hw : Region.wanted o (yielded all.toArray a.tmps) = true := by
      rcases g with g | ⟨j, want, t, g1, g2, g3⟩
      · simp [Region.wanted, g]
      · simp [Region.wanted, g1, (hs.sim.yields g2).1 _ g3]
    rw [if_pos hw]
    refine .inl (act_ok hE.con hs.sim.mem (hs.fresh i hi hp) (hs.sim.evOs _ a1) a3 a4 fun c w' hpost => ?_)
    rw [← a5, ← a6] at hpost
    exact fin hM'.dst hpost
  · have hw : Region.wanted o (yielded all.toArray a.tmps) = false := by
      rcases g3 with g3 | g3
      · simp [Region.wanted, g1, (hs.sim.yields g2).2 g3]
      · have := (hs.sim.yields g2).1 _ g3
        simp only [Region.wanted, g1, this]
        cases want <;> rfl
    rw [hw]
    refine fin hM'.dst ⟨ι, ?_, ?_, ?_, fun _ _ => rfl⟩
    · rw [b2]; exact hs.sim.mem
    · rw [b2]; exact Ext.refl
    · rw [b1]; exact .void

/-! ### all orders -/
def cnt (p : Nat → Bool) : Nat → Nat
  | 0 => 0
  | m + 1 => cnt p m + (bif p m then 0 else 1)
theorem cnt_add {i : Nat} (hp : p i = false) : ∀ m, cnt (add p i) m + (if i < m then 1 else 0) = cnt p m
  | 0 => rfl
  | m + 1 => by
    have ih := cnt_add hp m
    simp only [cnt]
    by_cases h : m = i
    · subst h
      have h1 : add p m m = true := by simp [add]
      rw [h1, hp]
      rw [if_neg (by omega)] at ih
      rw [if_pos (by omega)]
      simp only [cond_true, cond_false]
      omega
    · have h1 : add p i m = p m := by
        have : Nat.beq m i = false := Bool.eq_false_iff.2 (fun hb => h (Nat.eq_of_beq_eq_true hb))
        simp only [add, this, Bool.or_false]
      rw [h1]
      by_cases h2 : i < m
      · rw [if_pos h2] at ih; rw [if_pos (by omega)]; omega
      · rw [if_neg h2] at ih; rw [if_neg (by omega)]; omega
theorem cnt_zero : ∀ m, cnt p m = 0 → ∀ j, j < m → p j = true
  | 0, _, j, h => by omega
  | m + 1, h, j, hj => by
    simp only [cnt] at h
    have h1 : cnt p m = 0 := by omega
    have h2 : (bif p m then 0 else 1) = 0 := by omega
    rcases Nat.lt_or_ge j m with h3 | h3
    · exact cnt_zero m h1 j h3
    · obtain rfl : j = m := by omega
      cases hq : p j with
      | true => rfl
      | false => rw [hq] at h2; cases h2
theorem st_same {q : Nat → Bool} : ∀ m, (∀ j, j < m → p j = q j) → stN its s0 p m = stN its s0 q m
  | 0, _ => rfl
  | m + 1, h => by simp only [stN]; rw [h m (by omega), st_same m (fun j hj => h j (by omega))]
/-- what is known of a region's operations -/
structure Drawn (E : Env) (all : List Oper) (its : Nat → It) (s0 : S) : Prop where
  makes : ∀ i o, all[i]? = some o → Makes E all (s0.nx + i) o (stN its s0 (fun _ => true) i) (its i)
  pair : ∀ j, j < all.length → ∀ i, i < j → (∃ l, (ancs all [])[j]? = some l ∧ i ∈ l) ∨ Ind (its i) (its j)
  lt : ∀ j o, all[j]? = some o → ∀ i ∈ dirs o, i < j
theorem Drawn.ready (hD : Drawn E all its s0) (hc : Closed all p) {i : Nat} {o : Oper} (ho : all[i]? = some o) (hp : p i = false) (hd : ∀ j ∈ dirs o, p j = true) :
    Makes E all (s0.nx + i) o (stN its s0 p all.length) (its i) ∧ Eqv (effI (its i) (stN its s0 p all.length)) (stN its s0 (add p i) all.length) := by
  have hi : i < all.length := (List.getElem?_eq_some_iff.1 ho).1
  have anc := ancs_spec all p hc all [] 0 rfl rfl (fun j l h => by simp at h)
  have early : ∀ j, j < i → p j = false → Ind (its j) (its i) := by
    intro j hj hpj
    rcases hD.pair i hi j hj with ⟨l, h1, h2⟩ | h
    · have := anc i l h1 o ho hd j h2
      rw [hpj] at this; cases this
    · exact h
  have late : ∀ j, i < j → j < all.length → p j = true → Ind (its i) (its j) := by
    intro j hj hjn hpj
    rcases hD.pair j hjn i hj with ⟨l, h1, h2⟩ | h
    · have hoj : all[j]? = some all[j] := List.getElem?_eq_getElem hjn
      have := anc j l h1 _ hoj (hc j _ hpj hoj) i h2
      rw [hp] at this; cases this
    · exact h
  have agree : ∀ (φ : It → Prop), (∀ j, Ind (its j) (its i) → ¬ φ (its j)) → (∀ j, Ind (its i) (its j) → ¬ φ (its j)) → ∀ j, j < all.length → φ (its j) → Nat.blt j i = p j := by
    intro φ h1 h2 j hj hφ
    rcases Nat.lt_trichotomy j i with h | h | h
    · have hb : Nat.blt j i = true := Nat.ble_eq_true_of_le h
      rw [hb]
      cases hq : p j with
      | true => rfl
      | false => exact absurd hφ (h1 j (early j h hq))
    · subst h
      have hb : Nat.blt j j = false := Bool.eq_false_iff.2 (fun hb => by have : j < j := Nat.le_of_ble_eq_true hb; omega)
      rw [hb, hp]
    · have hb : Nat.blt j i = false := Bool.eq_false_iff.2 (fun hb => by have : j < i := Nat.le_of_ble_eq_true hb; omega)
      rw [hb]
      cases hq : p j with
      | false => rfl
      | true => exact absurd hφ (h2 j (late j h hj hq))
  constructor
  · have h0 := hD.makes i o ho
    have e : stN its s0 (fun _ => true) i = stN its s0 (fun j => Nat.blt j i) all.length := by rw [st_ahead, show min all.length i = i by omega]
    rw [e] at h0
    refine h0.agree (fun t ht => st_slot _ fun j hj hd => ?_) (fun id hid => st_heap _ fun j hj hd => ?_) (by rw [st_n, st_n])
    · exact agree (fun it => it.dst = some t) (fun j hI h => hI.ar t h ht) (fun j hI h => hI.br t h ht) j hj hd
    · exact agree (fun it => id ∈ keysW it.wr) (fun j hI h => hI.at_ id h hid) (fun j hI h => hI.bt id h hid) j hj hd
  · exact st_late hi hp late
def pL (listed : Array Bool) : Nat → Bool := fun j => listed.getD j false
theorem ready_spec {listed : Array Bool} (hn : listed.size = all.length) {i : Nat} : i ∈ Region.ready .any all.toArray listed ↔ ∃ o, all[i]? = some o ∧ pL listed i = false ∧ ∀ j ∈ dirs o, pL listed j = true := by
  have hdirs : ∀ o : Oper, (o.after.all fun e => !Region.binds .any e || listed.getD e.on false) = true ↔ ∀ j ∈ dirs o, pL listed j = true := by
    intro o
    rw [← Array.all_toList, List.all_eq_true]
    constructor
    · intro h j hj
      obtain ⟨e, he, rfl⟩ := List.mem_map.1 hj
      obtain ⟨h1, h2⟩ := List.mem_filter.1 he
      have := h e h1
      rw [h2] at this
      simpa [pL] using this
    · intro h e he
      cases hb : Region.binds .any e with
      | false => rfl
      | true =>
        have := h e.on (List.mem_map.2 ⟨e, List.mem_filter.2 ⟨he, hb⟩, rfl⟩)
        simpa [pL] using this
  unfold Region.ready
  rw [List.mem_filter, List.mem_range]
  constructor
  · rintro ⟨h1, h2⟩
    have hlt : i < all.length := by simpa using h1
    simp only [Bool.and_eq_true, Bool.not_eq_true'] at h2
    refine ⟨all[i], List.getElem?_eq_getElem hlt, ?_, ?_⟩
    · have := h2.1
      simp only [Array.getD_eq_getD_getElem?, pL] at this ⊢
      rw [Array.getElem?_eq_getElem (by omega)] at this ⊢
      exact this
    · have := h2.2
      rw [show all.toArray[i]? = some all[i] by simp [List.getElem?_eq_getElem hlt]] at this
      exact (hdirs _).1 this
  · rintro ⟨o, h1, h2, h3⟩
    have hlt : i < all.length := (List.getElem?_eq_some_iff.1 h1).1
    refine ⟨by simpa using hlt, ?_⟩
    simp only [Bool.and_eq_true, Bool.not_eq_true']
    constructor
    · simp only [Array.getD_eq_getD_getElem?, pL] at h2 ⊢
      rw [Array.getElem?_eq_getElem (by omega)] at h2 ⊢
      exact h2
    · rw [show all.toArray[i]? = some o by simpa using h1]
      exact (hdirs o).2 h3
theorem drawn_ok (hE : EnvOk E) (hD : Drawn E all its s0) {Q : Exit → Act → World → Prop} {ι0 : Nat → Option Cn} {X0 : Nat → Prop} {w1 : World} (hQ : ∀ ι' a' w', SimD ι' O w0 its s0 all.length (fun _ => true) a' w' → Ext ι0 ι' X0 (XS ι' O (sD its s0 all.length (fun _ => true))) w1 w' → Q .normal a' w') :
    ∀ (fuel : Nat) (listed : Array Bool) (ι : Nat → Option Cn) (a : Act) (w : World), listed.size = all.length → cnt (pL listed) all.length ≤ fuel → Closed all (pL listed) → SimD ι O w0 its s0 all.length (pL listed) a w →
      Ext ι0 ι X0 (XS ι O (sD its s0 all.length (pL listed))) w1 w → wpAny E.P .any all.toArray Q fuel listed a w := by
  have done : ∀ (listed : Array Bool) (ι : Nat → Option Cn) (a : Act) (w : World), (∀ j, j < all.length → pL listed j = true) → SimD ι O w0 its s0 all.length (pL listed) a w →
      Ext ι0 ι X0 (XS ι O (sD its s0 all.length (pL listed))) w1 w → Q .normal a w := by
    intro listed ι a w hall hs he
    have e : sD its s0 all.length (pL listed) = sD its s0 all.length (fun _ => true) := by unfold sD; rw [st_same _ (q := fun _ => true) fun j hj => hall j hj]
    rw [e] at he
    refine hQ ι a w ⟨by rw [← e]; exact hs.sim, fun j _ h => by cases h⟩ he
  intro fuel
  induction fuel with
  | zero =>
    intro listed ι a w hn hc _ hs he
    have hall := cnt_zero (p := pL listed) _ (Nat.le_zero.1 hc)
    refine ⟨?_, done listed ι a w hall hs he⟩
    apply List.eq_nil_iff_forall_not_mem.2
    intro i hi
    obtain ⟨o, h1, h2, _⟩ := (ready_spec hn).1 hi
    rw [hall i (List.getElem?_eq_some_iff.1 h1).1] at h2
    cases h2
  | succ fuel ih =>
    intro listed ι a w hn hc hcl hs he
    refine ⟨fun hr => ?_, fun i hi => ?_⟩
    · refine done listed ι a w (fun j => ?_) hs he
      induction j using Nat.strongRecOn with
      | _ j ihj =>
        intro hj
        cases hq : pL listed j with
        | true => rfl
        | false =>
          have hoj : all[j]? = some all[j] := List.getElem?_eq_getElem hj
          have : j ∈ Region.ready .any all.toArray listed := (ready_spec hn).2 ⟨_, hoj, hq, fun i hi => ihj i (hD.lt j _ hoj i hi) (by have := hD.lt j _ hoj i hi; omega)⟩
          rw [hr] at this
          cases this
    · obtain ⟨o, h1, h2, h3⟩ := (ready_spec hn).1 hi
      have hil : i < all.length := (List.getElem?_eq_some_iff.1 h1).1
      obtain ⟨m1, m2⟩ := hD.ready hcl h1 h2 h3
      have hset : pL (listed.setIfInBounds i true) = add (pL listed) i := by
        funext j
        simp only [pL, add, Array.getD_eq_getD_getElem?, Array.getElem?_setIfInBounds]
        by_cases hj : i = j
        · subst hj
          rw [if_pos rfl, if_pos (by omega)]
          simp
        · rw [if_neg hj]
          have : Nat.beq j i = false := Bool.eq_false_iff.2 (fun hb => hj (Nat.eq_of_beq_eq_true hb).symm)
          rw [this, Bool.or_false]
      refine opD_ok hE h1 hil h2 m1 m2 hs fun ι' a' w' q1 q2 => ?_
      refine ih _ ι' a' w' (by simpa using hn) ?_ ?_ (by rw [hset]; exact q1) (by rw [hset]; exact he.trans q2)
      · have := cnt_add h2 all.length
        rw [if_pos hil] at this
        rw [hset]; omega
      · rw [hset]
        intro j o' hj ho' k hk
        simp only [add, Bool.or_eq_true] at hj ⊢
        rcases hj with hj | hj
        · exact .inl (hcl j o' hj ho' k hk)
        · have := Nat.eq_of_beq_eq_true hj
          subst this
          rw [h1] at ho'; injection ho' with ho'; subst ho'
          exact .inl (h3 k hk)
end
end Go.Am
