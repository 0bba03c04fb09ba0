/- The abstract machine: a part of a state by itself, and put back. -/
import Derived.Test.YthbllfhaaidhjaaAmn
import Derived.Test.YthbllfhaaidhjaaAmz
namespace Go.Am
open Go Go.RowKit Go.Bas
def XS (ι : Nat → Option Cn) (O : Nat → Prop) (s : S) : Nat → Prop := Ex1 ι (lookH s.hp) O
structure MSim (ι : Nat → Option Cn) (O : Nat → Prop) (w0 : Zone) (s : S) (w : World) : Prop where
  mem : HSim ι O w0 (lookH s.hp) w
  fresh : ∀ id, s.nx ≤ id → ι id = none
structure Sim (ι : Nat → Option Cn) (O : Nat → Prop) (w0 : Zone) (s : S) (a : Act) (w : World) : Prop extends MSim ι O w0 s w where
  size : a.tmps.size = s.n
  slots : ∀ t v, look s.sl t = some v → t < s.n ∧ VRep ι (XS ι O s) w v (a.tmps.getD t Go.undef)
  defers : a.defers = []
/-- as Ext, but of the numbers in p alone -/
structure ExtP (p : Nat → Prop) (ι ι' : Nat → Option Cn) (O O' : Nat → Prop) (w w' : World) : Prop where
  size : w.heap.size ≤ w'.heap.size
  io : ∀ id c, p id → ι id = some c → ι' id = some c
  same : ∀ b, b < w.heap.size → ¬ O b → w'.heap[b]? = w.heap[b]?
  own : ∀ b, O' b → O b ∨ w.heap.size ≤ b
theorem Ext.part {ι ι' : Nat → Option Cn} {O O' : Nat → Prop} {w w' : World} (h : Ext ι ι' O O' w w') (p : Nat → Prop) : ExtP p ι ι' O O' w w' := ⟨h.size, fun id c _ e => h.io id c e, h.same, h.own⟩
theorem ExtP.trans {p : Nat → Prop} {ι ι' ι'' : Nat → Option Cn} {O O' O'' : Nat → Prop} {w w' w'' : World} (h : ExtP p ι ι' O O' w w') (k : ExtP p ι' ι'' O' O'' w' w'') : ExtP p ι ι'' O O'' w w'' :=
  ⟨Nat.le_trans h.size k.size, fun id c hl e => k.io id c hl (h.io id c hl e),
   fun b hb ho => (k.same b (Nat.lt_of_lt_of_le hb h.size) (fun h' => (h.own b h').elim ho (by omega))).trans (h.same b hb ho),
   fun b hb => (k.own b hb).elim (h.own b) (fun h' => .inr (Nat.le_trans h.size h'))⟩
def Nxt (ι : Nat → Option Cn) (O : Nat → Prop) (w0 : Zone) (s : S) (w : World) (s' : S) (a' : Act) (w' : World) : Prop :=
  ∃ ι', Sim ι' O w0 s' a' w' ∧ Ext ι ι' (XS ι O s) (XS ι' O s') w w'
section
variable {ι : Nat → Option Cn} {O : Nat → Prop} {w0 : Zone} {w : World} {s : S} {a : Act}
def ιL (ι : Nat → Option Cn) (L : List Nat) : Nat → Option Cn := fun j => (L[j]?).bind ι
theorem idxN_spec : ∀ {L : List Nat} {i j : Nat}, idxN L i = some j → L[j]? = some i
  | x :: l, i, j, h => by
    simp only [idxN] at h
    cases hq : Nat.beq x i with
    | true => rw [hq] at h; injection h with h; subst h; simp [Nat.eq_of_beq_eq_true hq]
    | false =>
      rw [hq] at h
      simp only [cond_false] at h
      split at h
      · rename_i j' hj
        injection h with h; subst h
        simpa using idxN_spec hj
      · cases h
theorem ιL_of {L : List Nat} {i j : Nat} (h : idxN L i = some j) : ιL ι L j = ι i := by
  unfold ιL; rw [idxN_spec h]; rfl
/-- numbers turned into others that stand for the same -/
def Ren (ρ : Nat → Option Nat) (ι ι' : Nat → Option Cn) : Prop := ∀ i j, ρ i = some j → ι' j = ι i
theorem RefTo.ren {ρ : Nat → Option Nat} {ι' : Nat → Option Cn} (hρ : Ren ρ ι ι') {i j : Nat} {p : List Step} {off : Nat} {sh : Sh} {g : Nat} (h : ρ i = some j) (hr : RefTo ι i p off sh g) : RefTo ι' j p off sh g := by
  rcases hr with ⟨s0, h1, h2⟩ | ⟨n, c, T, e, h1, h2, h3⟩
  · exact .inl ⟨s0, by rw [hρ _ _ h]; exact h1, h2⟩
  · exact .inr ⟨n, c, T, e, by rw [hρ _ _ h]; exact h1, h2, h3⟩
theorem Ren.idx {L : List Nat} : Ren (idxN L) ι (ιL ι L) := fun _ _ h => ιL_of h
theorem no_to {X Y : Nat → Prop} {ι' : Nat → Option Cn} (h : ∀ b, Y b → X b) : Ext no ι' X Y w w := Ext.mk (Nat.le_refl _) (fun _ _ e => by cases e) (fun _ _ _ => rfl) (fun b hb => .inl (h b hb))
mutual
theorem ren_rep {ρ : Nat → Option Nat} {ι' : Nat → Option Cn} (hρ : Ren ρ ι ι') {X Y : Nat → Prop} (hXY : ∀ b, Y b → X b) : ∀ (v : V) {v' : V}, renV ρ v = some v' → (∀ {cs}, CRep ι X w v cs → CRep ι' Y w v' cs) ∧ v'.isAgg = v.isAgg
  | .ref id p off sh, v', h => by
    simp only [renV] at h
    split at h
    · rename_i j hj
      injection h with h; subst h
      exact ⟨fun hr => by cases hr with | ref hr => exact .ref (hr.ren hρ hj), rfl⟩
    · cases h
  | .own id n sh, v', h => by
    simp only [renV] at h
    split at h
    · rename_i j hj
      injection h with h; subst h
      exact ⟨fun hr => by cases hr with | own hr hA => exact .own (by rw [hρ _ _ hj]; exact hr) hA, rfl⟩
    · cases h
  | .agg l, v', h => by
    simp only [renV] at h
    split at h
    · rename_i l' hl
      injection h with h; subst h
      exact ⟨fun hr => by cases hr with | agg hr => exact .agg ((rens_rep hρ hXY l hl).1 hr), rfl⟩
    · cases h
  | .fn f x y, v', h => by
    simp only [renV] at h
    split at h
    · rename_i x' hx
      split at h
      · rename_i y' hy
        injection h with h; subst h
        exact ⟨fun hr => by cases hr with | fn p q => exact .fn ((rens_rep hρ hXY x hx).2 p) ((rens_rep hρ hXY y hy).2 q), rfl⟩
      · cases h
    · cases h
  | .int k n, v', h => by injection h with h; subst h; exact ⟨fun hr => by cases hr with | int h => exact .int h, rfl⟩
  | .bool b, v', h => by injection h with h; subst h; exact ⟨fun hr => by cases hr; exact .bool, rfl⟩
  | .str b, v', h => by injection h with h; subst h; exact ⟨fun hr => by cases hr; exact .str, rfl⟩
  | .nils, v', h => by injection h with h; subst h; exact ⟨fun hr => by cases hr; exact .nils, rfl⟩
  | .bytes l, v', h => by injection h with h; subst h; exact ⟨fun hr => (row_any rfl (ι' := no) hr).ext (no_to hXY), rfl⟩
  | .rows e l, v', h => by injection h with h; subst h; exact ⟨fun hr => (row_any rfl (ι' := no) hr).ext (no_to hXY), rfl⟩
  | .barr n l, v', h => by injection h with h; subst h; exact ⟨fun hr => by cases hr with | barr h => exact .barr h, rfl⟩
  | .arr e n l, v', h => by injection h with h; subst h; exact ⟨fun hr => (CRep.any (s := .arr n e) (ι' := no) (by simp [isR, Sh.beq_self]) hr).ext (no_to hXY), rfl⟩
  | .vref sh u, v', h => by
    injection h with h; subst h
    exact ⟨fun hr => by cases hr with | vref h1 h2 h3 h4 h5 => exact .vref h1 ((CRep.any (ι' := no) h1 h2).ext (no_to hXY)) (fun hy => h3 (hXY _ hy)) h4 h5, rfl⟩
  | .nil k, v', h => by
    injection h with h; subst h
    refine ⟨fun hr => ?_, rfl⟩
    cases hr
    · exact .nilp
    · exact .nilf
    · exact .nili
    · exact .nilm
  | .void, v', h => by injection h with h; subst h; exact ⟨fun hr => (by cases hr), rfl⟩
  | .undef, v', h => by injection h with h; subst h; exact ⟨fun hr => (by cases hr), rfl⟩
  | .tup l, v', h => by
    simp only [renV] at h
    split at h
    · rename_i l' hl
      injection h with h; subst h
      exact ⟨fun hr => (by cases hr), rfl⟩
    · cases h
  | .ownv _ _, v', h => by cases h
theorem rens_rep {ρ : Nat → Option Nat} {ι' : Nat → Option Cn} (hρ : Ren ρ ι ι') {X Y : Nat → Prop} (hXY : ∀ b, Y b → X b) : ∀ (v : List V) {v' : List V}, renVs ρ v = some v' → (∀ {cs}, CReps ι X w v cs → CReps ι' Y w v' cs) ∧ (∀ {cs}, VReps ι X w v cs → VReps ι' Y w v' cs)
  | [], v', h => by
    injection h with h; subst h
    exact ⟨fun hr => by cases hr; exact .nil, fun hr => by cases hr; exact .nil⟩
  | v :: l, v', h => by
    simp only [renVs] at h
    split at h
    · rename_i x hx
      split at h
      · rename_i y hy
        injection h with h; subst h
        have h1 := ren_rep hρ hXY v hx
        have h2 := rens_rep hρ hXY l hy
        refine ⟨fun hr => by cases hr with | cons p q => exact .cons (h1.1 p) (h2.1 q), fun hr => ?_⟩
        cases hr with
        | cons p q =>
          refine .cons ?_ (h2.2 q)
          cases p with
          | one c d => exact .one (h1.1 c) (h1.2.trans d)
          | agg c d => exact .agg (h1.1 c) (h1.2.trans d)
          | tup c =>
            simp only [renV] at hx
            split at hx
            · rename_i l' hl
              injection hx with hx; subst hx
              exact .tup ((rens_rep hρ hXY _ hl).2 c)
            · cases hx
          | void => injection hx with hx; subst hx; exact .void
          | undef => injection hx with hx; subst hx; exact .undef
      · cases h
    · cases h
end
theorem renV_rep {ρ : Nat → Option Nat} {ι' : Nat → Option Cn} (hρ : Ren ρ ι ι') {X Y : Nat → Prop} (hXY : ∀ b, Y b → X b) {v v' : V} {c : Value} (h : renV ρ v = some v') (hr : VRep ι X w v c) : VRep ι' Y w v' c := by
  have := (rens_rep (ι := ι) (w := w) hρ hXY [v] (v' := [v']) (by simp only [renVs, h])).2 (.cons hr .nil)
  exact this.one_inv.elim fun c' h => by
    obtain ⟨h1, h2⟩ := h
    injection h1 with h1
    subst h1
    exact h2
theorem keepS_spec : ∀ {ts : List Nat} {l : List (Nat × V)}, keepS s ts = some l → ∀ p ∈ l, look s.sl p.1 = some p.2
  | [], l, h => by injection h with h; subst h; simp
  | t :: ts, l, h => by
    simp only [keepS] at h
    split at h
    · rename_i v hv
      split at h
      · rename_i l' hl
        injection h with h; subst h
        intro p hp
        rcases List.mem_cons.1 hp with rfl | hp
        · exact hv
        · exact keepS_spec hl p hp
      · cases h
    · cases h
theorem look_mem : ∀ {l : List (Nat × V)} {t : Nat} {v : V}, look l t = some v → (t, v) ∈ l
  | (x, u) :: l, t, v, h => by
    simp only [look] at h
    cases hq : Nat.beq x t with
    | true => rw [hq] at h; injection h with h; subst h; rw [Nat.eq_of_beq_eq_true hq]; simp
    | false => rw [hq] at h; exact List.mem_cons_of_mem _ (look_mem h)
theorem renS_spec {ρ : Nat → Option Nat} : ∀ {l l' : List (Nat × V)}, renS ρ l = some l' → ∀ p ∈ l', ∃ v, (p.1, v) ∈ l ∧ renV ρ v = some p.2
  | [], l', h => by injection h with h; subst h; simp
  | (t, v) :: l, l', h => by
    simp only [renS] at h
    split at h
    · rename_i x hx
      split at h
      · rename_i l2 hl
        injection h with h; subst h
        intro p hp
        rcases List.mem_cons.1 hp with rfl | hp
        · exact ⟨v, by simp, hx⟩
        · obtain ⟨u, h1, h2⟩ := renS_spec hl p hp
          exact ⟨u, by simp [h1], h2⟩
      · cases h
    · cases h
theorem keepB_spec {hq : Nat → Option Blk} {ρ : Nat → Option Nat} : ∀ {r : List Nat} {j0 : Nat} {hp : List (Nat × Option Blk)}, keepB hq ρ j0 r = some hp → ∀ j b, lookH hp j = some b → ∃ i k, j = j0 + i ∧ ∃ id, r[i]? = some id ∧ hq id = some k ∧ renB ρ k = some b
  | [], j0, hp, h, j, b, hj => by injection h with h; subst h; cases hj
  | id :: r, j0, hp, h, j, b, hj => by
    have step : ∀ (l : List (Nat × Option Blk)), keepB hq ρ (j0 + 1) r = some l → lookH l j = some b → ∃ i k, j = j0 + i ∧ ∃ id', (id :: r)[i]? = some id' ∧ hq id' = some k ∧ renB ρ k = some b := by
      intro l hl hb
      obtain ⟨i, k, e, id', h1, h2, h3⟩ := keepB_spec hl j b hb
      exact ⟨i + 1, k, by omega, id', by simpa using h1, h2, h3⟩
    simp only [keepB] at h
    split at h
    · rename_i k hk
      split at h
      · rename_i b' hb'
        split at h
        · rename_i l hl
          injection h with h; subst h
          simp only [lookH] at hj
          cases hq : Nat.beq j0 j with
          | true =>
            rw [hq] at hj; injection hj with hj; subst hj
            exact ⟨0, k, (Nat.eq_of_beq_eq_true hq).symm, id, rfl, hk, hb'⟩
          | false => rw [hq] at hj; exact step l hl hj
        · cases h
      · cases h
    · split at h
      · rename_i l hl
        injection h with h; subst h
        simp only [lookH] at hj
        cases hq : Nat.beq j0 j with
        | true => rw [hq] at hj; cases hj
        | false => rw [hq] at hj; exact step l hl hj
      · cases h
theorem idxN_none {L : List Nat} {x : Nat} (h : idxN L x = none) : x ∉ L := by
  induction L with
  | nil => simp
  | cons y L ih =>
    simp only [idxN] at h
    cases hq : Nat.beq y x with
    | true => rw [hq] at h; cases h
    | false =>
      rw [hq] at h
      simp only [cond_false] at h
      split at h
      · cases h
      · rename_i hn
        simp only [List.mem_cons, not_or]
        exact ⟨fun e => by subst e; simp at hq, ih hn⟩
theorem addN_nodup : ∀ {r L : List Nat}, L.Nodup → (addN L r).Nodup
  | [], L, h => h
  | x :: r, L, h => by
    simp only [addN]
    split
    · exact addN_nodup h
    · rename_i hn
      refine addN_nodup ?_
      rw [List.nodup_append]
      refine ⟨h, by simp, ?_⟩
      intro y hy z hz
      simp at hz
      subst hz
      rintro rfl
      exact idxN_none hn hy
theorem renB_view {ρ : Nat → Option Nat} {k b : Blk} (h : renB ρ k = some b) : isView b = isView k := by
  cases k <;> simp only [renB] at h
  · split at h
    · injection h with h; subst h; rfl
    · cases h
  · injection h with h; subst h; rfl
  · injection h with h; subst h; rfl
mutual
theorem ren_isSh {ρ : Nat → Option Nat} : ∀ (v : V) {v' : V} {sh : Sh}, renV ρ v = some v' → isSh sh v = true → isSh sh v' = true
  | .ref id p off s, v', sh, h, hs => by
    simp only [renV] at h
    split at h
    · injection h with h; subst h
      cases sh with
      | other k => cases k <;> exact hs
      | _ => exact hs
    · cases h
  | .own id n s, v', sh, h, hs => by
    simp only [renV] at h
    split at h
    · injection h with h; subst h
      cases sh with
      | other k => cases k <;> exact hs
      | _ => exact hs
    · cases h
  | .agg l, v', sh, h, hs => by
    simp only [renV] at h
    split at h
    · rename_i l' hl
      injection h with h; subst h
      obtain ⟨ss, rfl⟩ : ∃ ss, sh = .agg ss := by
        cases sh with
        | agg ss => exact ⟨ss, rfl⟩
        | other k => cases k <;> simp [isSh] at hs
        | _ => simp [isSh] at hs
      exact rens_isSh l hl hs
    · cases h
  | .fn f x y, v', sh, h, hs => by
    simp only [renV] at h
    split at h
    · split at h
      · injection h with h; subst h
        cases sh with
        | other k => cases k <;> exact hs
        | _ => exact hs
      · cases h
    · cases h
  | .int k n, v', sh, h, hs => by injection h with h; subst h; exact hs
  | .bool b, v', sh, h, hs => by injection h with h; subst h; exact hs
  | .str b, v', sh, h, hs => by injection h with h; subst h; exact hs
  | .nils, v', sh, h, hs => by injection h with h; subst h; exact hs
  | .bytes l, v', sh, h, hs => by injection h with h; subst h; exact hs
  | .rows e l, v', sh, h, hs => by injection h with h; subst h; exact hs
  | .barr n l, v', sh, h, hs => by injection h with h; subst h; exact hs
  | .arr e n l, v', sh, h, hs => by injection h with h; subst h; exact hs
  | .vref s u, v', sh, h, hs => by injection h with h; subst h; exact hs
  | .nil k, v', sh, h, hs => by injection h with h; subst h; exact hs
  | .void, v', sh, h, hs => by injection h with h; subst h; exact hs
  | .undef, v', sh, h, hs => by injection h with h; subst h; exact hs
  | .tup l, v', sh, h, hs => by
    simp only [renV] at h
    split at h
    · injection h with h; subst h
      cases sh with
      | other k => cases k <;> simp [isSh] at hs
      | _ => simp [isSh] at hs
    · cases h
  | .ownv _ _, v', sh, h, hs => by cases h
theorem rens_isSh {ρ : Nat → Option Nat} : ∀ (v : List V) {v' : List V} {ss : List Sh}, renVs ρ v = some v' → isShs ss v = true → isShs ss v' = true
  | [], v', ss, h, hs => by injection h with h; subst h; exact hs
  | v :: l, v', ss, h, hs => by
    simp only [renVs] at h
    split at h
    · rename_i x hx
      split at h
      · rename_i y hy
        injection h with h; subst h
        cases ss with
        | nil => simp [isShs] at hs
        | cons s ss =>
          simp only [isShs, Bool.and_eq_true] at hs ⊢
          exact ⟨ren_isSh v hx hs.1, rens_isSh l hy hs.2⟩
      · cases h
    · cases h
end

/-! ### a part of the state by itself -/
/-- the blocks of the small state -/
def MineL (ι : Nat → Option Cn) (L : List Nat) (s1 : S) (b : Nat) : Prop := ∃ j, Mine (ιL ι L) (lookH s1.hp) j b
def zoneL (ι : Nat → Option Cn) (L : List Nat) (s1 : S) (w : World) : Zone := ⟨w, fun b => b < w.heap.size ∧ ¬ MineL ι L s1 b⟩
def OL (ι : Nat → Option Cn) (O : Nat → Prop) (s : S) (L : List Nat) (s1 : S) : Nat → Prop := fun b => XS ι O s b ∧ ¬ MineL ι L s1 b
/-- what is known of a state made small -/
structure Small (s : S) (L : List Nat) (s1 : S) : Prop where
  nodup : L.Nodup
  blk : ∀ j b, lookH s1.hp j = some b → ∃ id k, L[j]? = some id ∧ lookH s.hp id = some k ∧ renB (idxN L) k = some b
  nx : s1.nx = L.length
  ob : s1.ob = true
  n : s1.n = s.n
  sl : ∀ t v, look s1.sl t = some v → ∃ u, look s.sl t = some u ∧ renV (idxN L) u = some v
theorem norm_small {ts : List Nat} {L : List Nat} {s1 : S} (hn : norm ts s = some (L, s1)) : Small s L s1 := by
  unfold Am.norm at hn
  split at hn
  · rename_i l hl
    simp only at hn
    generalize hL : closeN (lookH s.hp) (closeN (lookH s.hp) (addN [] (idss (l.map (·.2))))) = L0 at hn
    have hnd : L0.Nodup := by rw [← hL]; exact addN_nodup (addN_nodup (addN_nodup (by simp)))
    split at hn
    · rename_i sl hsl
      split at hn
      · rename_i hp hhp
        injection hn with hn; injection hn with e1 e2; subst e1; subst e2
        refine ⟨hnd, fun j b hb => ?_, rfl, rfl, rfl, fun t v hv => ?_⟩
        · obtain ⟨i, k, e, id, h1, h2, h3⟩ := keepB_spec hhp j b hb
          rw [Nat.zero_add] at e; subst e
          exact ⟨id, k, h1, h2, h3⟩
        · obtain ⟨u, h1, h2⟩ := renS_spec hsl _ (look_mem hv)
          exact ⟨u, keepS_spec hl _ h1, h2⟩
      · cases hn
    · cases hn
  · cases hn
theorem Small.mine {L : List Nat} {s1 : S} (h : Small s L s1) {j b : Nat} (hm : Mine (ιL ι L) (lookH s1.hp) j b) : ∃ id, L[j]? = some id ∧ Mine ι (lookH s.hp) id b := by
  obtain ⟨k, c, h1, h2, h3, h4⟩ := hm
  obtain ⟨id, k', e1, e2, e3⟩ := h.blk j k h1
  refine ⟨id, e1, k', c, e2, by rw [← renB_view e3]; exact h2, ?_, h4⟩
  unfold ιL at h3; rw [e1] at h3; exact h3
theorem Small.inj {L : List Nat} {s1 : S} (h : Small s L s1) {i j x : Nat} (h1 : L[i]? = some x) (h2 : L[j]? = some x) : i = j := by
  obtain ⟨hi, e1⟩ := List.getElem?_eq_some_iff.1 h1
  obtain ⟨hj, e2⟩ := List.getElem?_eq_some_iff.1 h2
  exact (List.getElem_inj h.nodup).1 (e1.trans e2.symm)
/-- a block, its numbers turned -/
theorem BRep.ren {ρ : Nat → Option Nat} {ι' : Nat → Option Cn} (hρ : Ren ρ ι ι') {X Y : Nat → Prop} (hXY : ∀ b, Y b → X b) {id j : Nat} {k b : Blk} (hj : ι' j = ι id) (hb : renB ρ k = some b) (h : BRep ι X w id k) : BRep ι' Y w j b := by
  cases h with
  | var hi hs hg hr =>
    rename_i sh v g ds T
    simp only [renB] at hb
    split at hb
    · rename_i v' hv
      injection hb with hb; subst hb
      exact .var (by rw [hj]; exact hi) (ren_isSh v hv hs) hg ((ren_rep hρ hXY v hv).1 hr)
    · cases hb
  | row hi hr ho =>
    injection hb with hb; subst hb
    refine .row (by rw [hj]; exact hi) ?_ ho
    cases hr with
    | bytes => exact .bytes
    | rows he hr => exact .rows he ((CReps.any_of (ι' := no) (fun p q => CRep.any p q) hr he).ext (no_to hXY))
  | view hi hr hw he =>
    injection hb with hb; subst hb
    exact .view (by rw [hj]; exact hi) ((row_any hw (ι' := no) hr).ext (no_to hXY)) hw he
/-- the small state in the same world: nothing else is anybody's -/
theorem Sim.norm {ts vs L : List Nat} {s2 : S} (h : Sim ι O w0 s a w) (hn : norm ts s = some (L, s2)) (hf : fixOk L vs = true) : ∃ ι2, Sim ι2 O w0 s2 a w ∧ ExtP (· ∈ vs) ι ι2 (XS ι O s) (XS ι2 O s2) w w ∧ s2.ob = true := by
  have hS := norm_small hn
  have hXY : ∀ b, XS (ιL ι L) O s2 b → XS ι O s b := by
    rintro b (hb | ⟨j, hm⟩)
    · exact .inl hb
    · obtain ⟨id, _, hm⟩ := hS.mine hm; exact .inr ⟨id, hm⟩
  refine ⟨ιL ι L, ⟨⟨⟨h.mem.below, h.mem.old_lt, h.mem.outer, ?_, ?_, ?_⟩, ?_⟩, by rw [hS.n]; exact h.size, ?_, h.defers⟩, ⟨Nat.le_refl _, fun id c hi e => ?_, fun _ _ _ => rfl, fun b hb => .inl (hXY b hb)⟩, hS.ob⟩
  · intro j b hb
    obtain ⟨id, k, e1, e2, e3⟩ := hS.blk j b hb
    exact BRep.ren Ren.idx hXY (by unfold ιL; rw [e1]; rfl) e3 (h.mem.blk id k e2)
  · intro j j' b h1 h2
    obtain ⟨id, e1, m1⟩ := hS.mine h1
    obtain ⟨id', e2, m2⟩ := hS.mine h2
    have := h.mem.one _ _ _ m1 m2
    subst this
    exact hS.inj e1 e2
  · intro j b hm
    obtain ⟨id, _, m⟩ := hS.mine hm
    exact h.mem.fresh id b m
  · intro j hj
    rw [hS.nx] at hj
    unfold ιL
    rw [List.getElem?_eq_none hj]; rfl
  · intro t v hv
    obtain ⟨u, h1, h2⟩ := hS.sl t v hv
    obtain ⟨h4, h5⟩ := h.slots t u h1
    exact ⟨by rw [hS.n]; exact h4, renV_rep Ren.idx hXY h2 h5⟩
  · have hi : id ∈ vs := hi
    have : ∀ vs : List Nat, fixOk L vs = true → ∀ v ∈ vs, L[v]? = some v := by
      intro vs
      induction vs with
      | nil => intro _ v hv; cases hv
      | cons x vs ih =>
        intro hf v hv
        simp only [fixOk, Bool.and_eq_true] at hf
        rcases List.mem_cons.1 hv with rfl | hv
        · have h1 := hf.1
          rw [nthL_eq] at h1
          split at h1
          · rename_i y hy; rw [hy, Nat.eq_of_beq_eq_true h1]
          · cases h1
        · exact ih hf.2 v hv
    unfold ιL; rw [this vs hf id hi]; exact e
/-- the small state by itself: what else there is stays -/
theorem MSim.front {L : List Nat} {s1 : S} (h : MSim ι O w0 s w) (hS : Small s L s1) :
    MSim (ιL ι L) (OL ι O s L s1) (zoneL ι L s1 w) s1 w ∧ (∀ b, XS (ιL ι L) (OL ι O s L s1) s1 b → XS ι O s b) ∧ (∀ b, MineL ι L s1 b → ¬ w0.old b) := by
  have hM : ∀ b, MineL ι L s1 b → (∃ id, Mine ι (lookH s.hp) id b) := by
    rintro b ⟨j, hm⟩
    obtain ⟨id, _, hm⟩ := hS.mine hm; exact ⟨id, hm⟩
  have hXY : ∀ b, XS (ιL ι L) (OL ι O s L s1) s1 b → XS ι O s b := by
    rintro b (hb | hm)
    · exact hb.1
    · exact .inr (hM b hm)
  have hX : ∀ b, XS ι O s b → b < w.heap.size := by
    rintro b (hb | ⟨id, hm⟩)
    · exact h.mem.lt (h.mem.outer b hb)
    · exact (h.mem.fresh id b hm).2
  refine ⟨⟨⟨Keeps.refl _ _, fun b hb => hb.1, fun b hb => ⟨hX b hb.1, hb.2⟩, ?_, ?_, ?_⟩, ?_⟩, hXY, fun b hm => by obtain ⟨id, hm⟩ := hM b hm; exact (h.mem.fresh id b hm).1⟩
  · intro j b hb
    obtain ⟨id, k, e1, e2, e3⟩ := hS.blk j b hb
    exact BRep.ren Ren.idx hXY (by unfold ιL; rw [e1]; rfl) e3 (h.mem.blk id k e2)
  · intro j j' b h1 h2
    obtain ⟨id, e1, m1⟩ := hS.mine h1
    obtain ⟨id', e2, m2⟩ := hS.mine h2
    have := h.mem.one _ _ _ m1 m2
    subst this
    exact hS.inj e1 e2
  · intro j b hm
    refine ⟨fun ho => ho.2 ⟨j, hm⟩, ?_⟩
    obtain ⟨id, _, m⟩ := hS.mine hm
    exact (h.mem.fresh id b m).2
  · intro j hj
    rw [hS.nx] at hj
    unfold ιL
    rw [List.getElem?_eq_none hj]; rfl
theorem isIn_spec {x : Nat} : ∀ {l : List Nat}, isIn x l = true ↔ x ∈ l
  | [] => by simp [isIn]
  | y :: l => by
    simp only [isIn, Bool.or_eq_true, List.mem_cons, isIn_spec (l := l)]
    exact ⟨fun h => h.imp Nat.eq_of_beq_eq_true id, fun h => h.imp (fun e => by subst e; simp) id⟩
theorem varsOk_spec {s1 : S} : ∀ {vs : List Nat}, varsOk s1 vs = true → ∀ v ∈ vs, ∃ sh x, lookH s1.hp v = some (.var sh x)
  | [], _, v, hv => by cases hv
  | y :: l, h, v, hv => by
    simp only [varsOk, Bool.and_eq_true] at h
    rcases List.mem_cons.1 hv with rfl | hv
    · have h1 := h.1
      split at h1
      · rename_i sh x hx; exact ⟨sh, x, hx⟩
      · cases h1
    · exact varsOk_spec h.2 v hv
theorem backB_spec {ρ : Nat → Option Nat} (hinj : ∀ i j x, ρ i = some x → ρ j = some x → i = j) : ∀ {l l' : List (Nat × Option Blk)}, backB ρ l = some l' → ∀ i, (∀ k, lookH l' i = some k → ∃ j k', ρ j = some i ∧ lookH l j = some k' ∧ renB ρ k' = some k)
  | [], l', h, i, k, hk => by injection h with h; subst h; cases hk
  | (j, b) :: r, l', h, i, k, hk => by
    have tail : ∀ {l2 : List (Nat × Option Blk)} {i0 : Nat}, backB ρ r = some l2 → ρ j = some i0 → i0 ≠ i → lookH l2 i = some k → ∃ j' k', ρ j' = some i ∧ lookH ((j, b) :: r) j' = some k' ∧ renB ρ k' = some k := by
      intro l2 i0 h2 h0 hne h3
      obtain ⟨j', k', e1, e2, e3⟩ := backB_spec hinj h2 i k h3
      refine ⟨j', k', e1, ?_, e3⟩
      simp only [lookH]
      cases hq : Nat.beq j j' with
      | true => have := Nat.eq_of_beq_eq_true hq; subst this; rw [h0] at e1; injection e1 with e1; exact absurd e1 hne
      | false => exact e2
    simp only [backB] at h
    split at h
    · rename_i i0 h0
      split at h
      · rename_i k0
        split at h
        · rename_i k1 h1
          split at h
          · rename_i l2 h2
            injection h with h; subst h
            simp only [lookH] at hk
            cases hq : Nat.beq i0 i with
            | true =>
              rw [hq] at hk; injection hk with hk; subst hk
              have := Nat.eq_of_beq_eq_true hq; subst this
              exact ⟨j, k0, h0, by simp [lookH], h1⟩
            | false => rw [hq] at hk; exact tail h2 h0 (fun e => by subst e; simp at hq) hk
          · cases h
        · cases h
      · split at h
        · rename_i l2 h2
          injection h with h; subst h
          simp only [lookH] at hk
          cases hq : Nat.beq i0 i with
          | true => rw [hq] at hk; cases hk
          | false => rw [hq] at hk; exact tail h2 h0 (fun e => by subst e; simp at hq) hk
        · cases h
    · cases h
theorem dead_spec {hp : List (Nat × Option Blk)} {i : Nat} {k : Blk} : ∀ {L : List Nat}, lookH (L.map (fun i => (i, (none : Option Blk))) ++ hp) i = some k → i ∉ L ∧ lookH hp i = some k
  | [], h => ⟨by simp, h⟩
  | x :: L, h => by
    simp only [List.map_cons, List.cons_append, lookH] at h
    cases hq : Nat.beq x i with
    | true => rw [hq] at h; cases h
    | false =>
      rw [hq] at h
      obtain ⟨h1, h2⟩ := dead_spec (L := L) h
      exact ⟨by simp only [List.mem_cons, not_or]; exact ⟨fun e => by subst e; simp at hq, h1⟩, h2⟩
theorem lookH_app {l m : List (Nat × Option Blk)} {i : Nat} {k : Blk} (h : lookH (l ++ m) i = some k) : lookH l i = some k ∨ ((∀ k', lookH l i ≠ some k') ∧ lookH m i = some k) := by
  induction l with
  | nil => exact .inr ⟨fun k' h' => by (cases h'), h⟩
  | cons x l ih =>
    obtain ⟨y, v⟩ := x
    simp only [List.cons_append, lookH] at h ⊢
    cases hq : Nat.beq y i with
    | true => rw [hq] at h; exact .inl h
    | false => rw [hq] at h; exact ih h
theorem renS_look {ρ : Nat → Option Nat} : ∀ {l l' : List (Nat × V)}, renS ρ l = some l' → ∀ {t v}, look l' t = some v → ∃ u, look l t = some u ∧ renV ρ u = some v
  | [], l', h, t, v, hv => by injection h with h; subst h; cases hv
  | (t0, u0) :: l, l', h, t, v, hv => by
    simp only [renS] at h
    split at h
    · rename_i x hx
      split at h
      · rename_i l2 h2
        injection h with h; subst h
        simp only [look] at hv ⊢
        cases hq : Nat.beq t0 t with
        | true => rw [hq] at hv; injection hv with hv; subst hv; exact ⟨u0, rfl, hx⟩
        | false => rw [hq] at hv; exact renS_look h2 hv
      · cases h
    · cases h
/-- the small state put back -/
theorem MSim.back {L vs : List Nat} {s1 s2 : S} {ι' : Nat → Option Cn} {w' : World} {hp : List (Nat × Option Blk)} (h : MSim ι O w0 s w) (hS : Small s L s1) (hv : varsOk s1 vs = true)
    (h2 : MSim ι' (OL ι O s L s1) (zoneL ι L s1 w) s2 w') (he : ExtP (· ∈ vs) (ιL ι L) ι' (XS (ιL ι L) (OL ι O s L s1) s1) (XS ι' (OL ι O s L s1) s2) w w')
    (hb : backB (backR L vs s.nx) s2.hp = some hp) {s' : S} (hs' : s'.hp = hp ++ (L.map (fun i => (i, none)) ++ s.hp)) (hnx : s'.nx = s.nx + s2.nx) :
    ∃ ι2, MSim ι2 O w0 s' w' ∧ Ext ι ι2 (XS ι O s) (XS ι2 O s') w w' ∧ (∀ v v' c, renV (backR L vs s.nx) v = some v' → VRep ι' (XS ι' (OL ι O s L s1) s2) w' v c → VRep ι2 (XS ι2 O s') w' v' c) := by
  obtain ⟨hf, hXY, hold⟩ := h.front hS
  let ι2 : Nat → Option Cn := fun id => if id < s.nx then ι id else ι' (id - s.nx)
  have hlow : ∀ id c, ι id = some c → id < s.nx := by
    intro id c hc
    rcases Nat.lt_or_ge id s.nx with hlt | hge
    · exact hlt
    · rw [h.fresh id hge] at hc; cases hc
  have hio : ∀ id c, ι id = some c → ι2 id = some c := by
    intro id c hc
    show (if id < s.nx then ι id else ι' (id - s.nx)) = some c
    rw [if_pos (hlow id c hc)]; exact hc
  have hvar : ∀ v, v ∈ vs → ∃ i c, L[v]? = some i ∧ ι i = some c ∧ i < s.nx ∧ ι' v = some c := by
    intro v hm
    obtain ⟨sh, x, hx⟩ := varsOk_spec hv v hm
    obtain ⟨c, hc⟩ := hf.mem.known hx
    have hc' := hc
    unfold ιL at hc'
    cases hl : L[v]? with
    | none => rw [hl] at hc'; cases hc'
    | some i =>
      rw [hl] at hc'
      exact ⟨i, c, rfl, hc', hlow i c hc', he.io v c hm hc⟩
  have hρ : Ren (backR L vs s.nx) ι' ι2 := by
    intro j i hj
    unfold backR at hj
    cases hm : isIn j vs with
    | true =>
      rw [hm] at hj
      obtain ⟨i', c, e1, e2, e3, e4⟩ := hvar j (isIn_spec.1 hm)
      rw [cond_true, nthL_eq, e1] at hj
      injection hj with hj; subst hj
      rw [e4]; exact hio _ _ e2
    | false =>
      rw [hm] at hj
      injection hj with hj; subst hj
      show (if s.nx + j < s.nx then ι (s.nx + j) else ι' (s.nx + j - s.nx)) = ι' j
      rw [if_neg (by omega), Nat.add_sub_cancel_left]
  have hinj : ∀ i j x, backR L vs s.nx i = some x → backR L vs s.nx j = some x → i = j := by
    intro i j x h1 h2
    unfold backR at h1 h2
    cases hi : isIn i vs with
    | true =>
      rw [hi] at h1
      obtain ⟨i', c, e1, e2, e3, e4⟩ := hvar i (isIn_spec.1 hi)
      rw [cond_true, nthL_eq] at h1
      cases hj : isIn j vs with
      | true =>
        rw [hj, cond_true, nthL_eq] at h2
        exact hS.inj h1 h2
      | false =>
        rw [hj] at h2; injection h2 with h2
        rw [e1] at h1; injection h1 with h1
        omega
    | false =>
      rw [hi] at h1; injection h1 with h1
      cases hj : isIn j vs with
      | true =>
        rw [hj, cond_true, nthL_eq] at h2
        obtain ⟨i', c, e1, e2, e3, e4⟩ := hvar j (isIn_spec.1 hj)
        rw [e1] at h2; injection h2 with h2
        omega
      | false => rw [hj] at h2; injection h2 with h2; omega
  have look' : ∀ i k, lookH s'.hp i = some k → (∃ j k', backR L vs s.nx j = some i ∧ lookH s2.hp j = some k' ∧ renB (backR L vs s.nx) k' = some k) ∨ (i ∉ L ∧ lookH s.hp i = some k) := by
    intro i k hk
    rw [hs'] at hk
    rcases lookH_app hk with hk | ⟨_, hk⟩
    · exact .inl (backB_spec hinj hb i k hk)
    · exact .inr (dead_spec hk)
  have mine' : ∀ i b, Mine ι2 (lookH s'.hp) i b → (∃ j, backR L vs s.nx j = some i ∧ Mine ι' (lookH s2.hp) j b) ∨ (i ∉ L ∧ Mine ι (lookH s.hp) i b) := by
    rintro i b ⟨k, c, h1, h2', h3, h4⟩
    rcases look' i k h1 with ⟨j, k', e1, e2, e3⟩ | ⟨e1, e2⟩
    · exact .inl ⟨j, e1, k', c, e2, by rw [← renB_view e3]; exact h2', by rw [← hρ _ _ e1]; exact h3, h4⟩
    · refine .inr ⟨e1, k, c, e2, h2', ?_, h4⟩
      obtain ⟨c', hc'⟩ := h.mem.known e2
      rw [hio _ _ hc'] at h3; rw [hc']; exact h3
  have notMine : ∀ i b, i ∉ L → Mine ι (lookH s.hp) i b → ¬ MineL ι L s1 b := by
    rintro i b hi hm ⟨j, hj⟩
    obtain ⟨id, e1, m⟩ := hS.mine hj
    have := h.mem.one _ _ _ hm m
    subst this
    exact hi (List.mem_iff_getElem?.2 ⟨j, e1⟩)
  have outNot : ∀ b, O b → ¬ MineL ι L s1 b := by
    rintro b ho ⟨j, hj⟩
    obtain ⟨id, e1, m⟩ := hS.mine hj
    exact h.mem.mine_not_outer m ho
  have hX2 : ∀ b, XS ι2 O s' b → XS ι' (OL ι O s L s1) s2 b := by
    rintro b (hb' | ⟨i, hm⟩)
    · exact .inl ⟨.inl hb', outNot b hb'⟩
    · rcases mine' i b hm with ⟨j, _, hm⟩ | ⟨hi, hm⟩
      · exact .inr ⟨j, hm⟩
      · exact .inl ⟨.inr ⟨i, hm⟩, notMine i b hi hm⟩
  have hX3 : ∀ b, XS ι2 O s' b → XS ι O s b ∨ w.heap.size ≤ b := fun b hb' => (he.own b (hX2 b hb')).imp (hXY b) id
  have hzone : ∀ b, w0.old b → (zoneL ι L s1 w).old b := fun b hb' => ⟨h.mem.lt hb', fun hm => hold b hm hb'⟩
  have hE : Ext ι ι2 (XS ι O s) (XS ι2 O s') w w' := by
    refine ⟨he.size, hio, fun b hlt hx => h2.mem.below.block b ⟨hlt, fun hm => ?_⟩, hX3⟩
    obtain ⟨j, hj⟩ := hm
    obtain ⟨id, _, m⟩ := hS.mine hj
    exact hx (.inr ⟨id, m⟩)
  refine ⟨ι2, ⟨⟨?_, h.mem.old_lt, h.mem.outer, ?_, ?_, ?_⟩, ?_⟩, hE, fun v v' c hr hvr => renV_rep hρ hX2 hr hvr⟩
  · have hk : Keeps w0.old w w' := ⟨h2.mem.below.os, h2.mem.below.tape, h2.mem.below.output, h2.mem.below.size, fun b hb' => h2.mem.below.block b (hzone b hb')⟩
    exact h.mem.below.trans hk
  · intro i k hk
    rcases look' i k hk with ⟨j, k', e1, e2, e3⟩ | ⟨e1, e2⟩
    · exact BRep.ren hρ hX2 (hρ _ _ e1) e3 (h2.mem.blk j k' e2)
    · have same : ∀ b, Mine ι (lookH s.hp) i b → w'.heap[b]? = w.heap[b]? := fun b hm => h2.mem.below.block b ⟨(h.mem.fresh i b hm).2, notMine i b e1 hm⟩
      cases h.mem.blk i k e2 with
      | var hi hs hg hr =>
        rename_i sh v g ds ty
        have hm : Mine ι (lookH s.hp) i g := ⟨_, _, e2, rfl, hi, rfl⟩
        refine .var (hio _ _ hi) hs (?_ : Bas.Blk w' g ty ds) (hr.ext hE)
        unfold Bas.Blk at *
        rw [same g hm]; exact hg
      | row hi hr ho =>
        rename_i ty sh v A n c ds
        refine .row (hio _ _ hi) (hr.ext hE) (ownsRow_same ho fun a' ha => ?_)
        subst ha
        exact same _ ⟨_, _, e2, rfl, hi, rfl⟩
      | view hi hr hw hs => exact .view (hio _ _ hi) (hr.ext hE) hw hs
  · intro i i' b m1 m2
    rcases mine' i b m1 with ⟨j, r1, q1⟩ | ⟨n1, q1⟩
    · rcases mine' i' b m2 with ⟨j', r2, q2⟩ | ⟨n2, q2⟩
      · have := h2.mem.one _ _ _ q1 q2
        subst this
        rw [r1] at r2; injection r2
      · exact absurd (show (zoneL ι L s1 w).old b from ⟨(h.mem.fresh i' b q2).2, notMine i' b n2 q2⟩) (h2.mem.fresh j b q1).1
    · rcases mine' i' b m2 with ⟨j', r2, q2⟩ | ⟨n2, q2⟩
      · exact absurd (show (zoneL ι L s1 w).old b from ⟨(h.mem.fresh i b q1).2, notMine i b n1 q1⟩) (h2.mem.fresh j' b q2).1
      · exact h.mem.one _ _ _ q1 q2
  · intro i b hm
    rcases mine' i b hm with ⟨j, _, q⟩ | ⟨_, q⟩
    · exact ⟨fun ho => (h2.mem.fresh j b q).1 (hzone b ho), (h2.mem.fresh j b q).2⟩
    · exact ⟨(h.mem.fresh i b q).1, Nat.lt_of_lt_of_le (h.mem.fresh i b q).2 he.size⟩
  · intro id hid
    rw [hnx] at hid
    show (if id < s.nx then ι id else ι' (id - s.nx)) = none
    rw [if_neg (by omega)]
    exact h2.fresh _ (by omega)
end
end Go.Am
