/- The abstract machine: regions that draw their order, whatever the order. -/
import Derived.Test.YthbllfhaaidhjaaAmq
namespace Go.Am
open Go Go.RowKit Go.Bas
def effI (it : It) (s : S) : S := ⟨put s.sl it.dst it.v, it.wr ++ s.hp, s.nx + 1, s.ob, s.n⟩
/-- the state when those of p have come up -/
def stN (its : Nat → It) (s0 : S) (p : Nat → Bool) : Nat → S
  | 0 => s0
  | m + 1 => bif p m then effI (its m) (stN its s0 p m) else stN its s0 p m
structure Eqv (s s' : S) : Prop where
  sl : ∀ t, look s.sl t = look s'.sl t
  hp : ∀ id, lookH s.hp id = lookH s'.hp id
  n : s.n = s'.n
section
variable {its : Nat → It} {s0 s s' : S} {p q : Nat → Bool}
theorem Eqv.refl (s : S) : Eqv s s := ⟨fun _ => rfl, fun _ => rfl, rfl⟩
theorem Eqv.trans {s1 s2 s3 : S} (h : Eqv s1 s2) (k : Eqv s2 s3) : Eqv s1 s3 := ⟨fun t => (h.sl t).trans (k.sl t), fun t => (h.hp t).trans (k.hp t), h.n.trans k.n⟩
theorem Eqv.symm (h : Eqv s s') : Eqv s' s := ⟨fun t => (h.sl t).symm, fun t => (h.hp t).symm, h.n.symm⟩
theorem updH_not {wr : List (Nat × Option Blk)} {hp : Nat → Option Blk} {id : Nat} (h : id ∉ keysW wr) : updH wr hp id = hp id := by
  induction wr with
  | nil => rfl
  | cons a wr ih =>
    obtain ⟨x, v⟩ := a
    simp only [keysW, List.mem_cons, not_or] at h
    simp only [updH]
    rw [if_neg (Ne.symm h.1), ih h.2]
theorem updH_in {wr : List (Nat × Option Blk)} {hp hp' : Nat → Option Blk} {id : Nat} (h : id ∈ keysW wr) : updH wr hp id = updH wr hp' id := by
  induction wr with
  | nil => cases h
  | cons a wr ih =>
    obtain ⟨x, v⟩ := a
    simp only [updH]
    by_cases hx : x = id
    · rw [if_pos hx, if_pos hx]
    · rw [if_neg hx, if_neg hx]
      simp only [keysW, List.mem_cons] at h
      exact ih (h.resolve_left (Ne.symm hx))
theorem eff_slot {it : It} {t : Nat} : look (effI it s).sl t = if it.dst = some t then some it.v else look s.sl t := look_put
theorem eff_heap {it : It} {id : Nat} : lookH (effI it s).hp id = updH it.wr (lookH s.hp) id := by
  show lookH (it.wr ++ s.hp) id = _
  rw [lookH_append]
theorem Eqv.eff (h : Eqv s s') (it : It) : Eqv (effI it s) (effI it s') := by
  refine ⟨fun t => by rw [eff_slot, eff_slot, h.sl], fun id => ?_, h.n⟩
  rw [eff_heap, eff_heap, show lookH s.hp = lookH s'.hp from funext h.hp]
theorem Eqv.st (h : Eqv s s') : ∀ m, Eqv (stN its s p m) (stN its s' p m)
  | 0 => h
  | m + 1 => by
    simp only [stN]
    cases p m
    · exact Eqv.st h m
    · exact (Eqv.st h m).eff _
theorem st_n : ∀ m, (stN its s0 p m).n = s0.n
  | 0 => rfl
  | m + 1 => by
    simp only [stN]
    cases p m
    · exact st_n m
    · exact st_n m
theorem st_slot {t : Nat} : ∀ m, (∀ i, i < m → (its i).dst = some t → p i = q i) → look (stN its s0 p m).sl t = look (stN its s0 q m).sl t
  | 0, _ => rfl
  | m + 1, h => by
    have ih := st_slot m (fun i hi hd => h i (by omega) hd)
    simp only [stN]
    by_cases hd : (its m).dst = some t
    · rw [← h m (by omega) hd]
      cases p m
      · exact ih
      · show look (effI _ _).sl t = look (effI _ _).sl t
        rw [eff_slot, eff_slot, if_pos hd, if_pos hd]
    · have e : ∀ (b : Bool) (s : S), look (bif b then effI (its m) s else s).sl t = look s.sl t := by
        intro b s
        cases b
        · rfl
        · show look (effI (its m) s).sl t = _
          rw [eff_slot, if_neg hd]
      rw [e, e]
      exact ih
theorem st_heap {id : Nat} : ∀ m, (∀ i, i < m → id ∈ keysW (its i).wr → p i = q i) → lookH (stN its s0 p m).hp id = lookH (stN its s0 q m).hp id
  | 0, _ => rfl
  | m + 1, h => by
    have ih := st_heap m (fun i hi hd => h i (by omega) hd)
    simp only [stN]
    by_cases hd : id ∈ keysW (its m).wr
    · rw [← h m (by omega) hd]
      cases p m
      · exact ih
      · show lookH (effI _ _).hp id = lookH (effI _ _).hp id
        rw [eff_heap, eff_heap]
        exact updH_in hd
    · have e : ∀ (b : Bool) (s : S), lookH (bif b then effI (its m) s else s).hp id = lookH s.hp id := by
        intro b s
        cases b
        · rfl
        · show lookH (effI (its m) s).hp id = _
          rw [eff_heap, updH_not hd]
      rw [e, e]
      exact ih
theorem disj_spec {l m : List Nat} (h : disj l m = true) : ∀ x ∈ l, x ∉ m := by
  have hm : ∀ (x : Nat) (m : List Nat), disj.memN x m = false → x ∉ m := by
    intro x m
    induction m with
    | nil => simp
    | cons y m ih =>
      intro h
      simp only [disj.memN, Bool.or_eq_false_iff] at h
      simp only [List.mem_cons, not_or]
      exact ⟨fun e => by subst e; simp at h, ih h.2⟩
  induction l with
  | nil => simp
  | cons a l ih =>
    simp only [disj, Bool.and_eq_true, Bool.not_eq_true'] at h
    intro x hx
    rcases List.mem_cons.1 hx with rfl | hx
    · exact hm _ _ h.1
    · exact ih h.2 x hx
structure Ind (a b : It) : Prop where
  ar : ∀ t, a.dst = some t → t ∉ b.rd
  br : ∀ t, b.dst = some t → t ∉ a.rd
  ab : ∀ t, a.dst = some t → b.dst ≠ some t
  at_ : ∀ i ∈ keysW a.wr, i ∉ b.tch
  bt : ∀ i ∈ keysW b.wr, i ∉ a.tch
  aw : ∀ i ∈ keysW a.wr, i ∉ keysW b.wr
theorem indep_spec {a b : It} (h : indep a b = true) : Ind a b := by
  simp only [indep, Bool.and_eq_true] at h
  obtain ⟨⟨⟨⟨⟨h1, h2⟩, h3⟩, h4⟩, h5⟩, h6⟩ := h
  exact ⟨fun t e => disj_spec h1 t (by rw [e]; simp), fun t e => disj_spec h2 t (by rw [e]; simp), fun t e e2 => disj_spec h3 t (by rw [e]; simp) (by rw [e2]; simp), disj_spec h4, disj_spec h5, disj_spec h6⟩
/-- one that comes up later than it stands in the text -/
theorem st_late {n i : Nat} (hi : i < n) (hp : p i = false) (hind : ∀ j, i < j → j < n → p j = true → Ind (its i) (its j)) :
    Eqv (effI (its i) (stN its s0 p n)) (stN its s0 (fun j => p j || Nat.beq j i) n) := by
  have hpi : ∀ j, j ≠ i → (p j || Nat.beq j i) = p j := fun j hj => by
    have : Nat.beq j i = false := Bool.eq_false_iff.2 (fun hb => hj (Nat.eq_of_beq_eq_true hb))
    rw [this, Bool.or_false]
  have hpii : (p i || Nat.beq i i) = true := by simp
  refine ⟨fun t => ?_, fun id => ?_, ?_⟩
  · rw [eff_slot]
    by_cases hd : (its i).dst = some t
    · rw [if_pos hd]
      have key : ∀ m, i < m → m ≤ n → look (stN its s0 (fun j => p j || Nat.beq j i) m).sl t = some (its i).v := by
        intro m
        induction m with
        | zero => intro h; omega
        | succ m ih =>
          intro h1 h2
          simp only [stN]
          by_cases hm : m = i
          · subst hm
            rw [hpii]
            show look (effI _ _).sl t = _
            rw [eff_slot, if_pos hd]
          · rw [hpi m hm]
            cases hpm : p m
            · exact ih (by omega) (by omega)
            · show look (effI _ _).sl t = _
              rw [eff_slot, if_neg ((hind m (by omega) (by omega) hpm).ab t hd)]
              exact ih (by omega) (by omega)
      exact (key n hi (Nat.le_refl _)).symm
    · rw [if_neg hd]
      refine st_slot n fun j _ hj => ?_
      by_cases e : j = i
      · subst e; exact absurd hj hd
      · exact (hpi j e).symm
  · rw [eff_heap]
    by_cases hd : id ∈ keysW (its i).wr
    · have key : ∀ m, i < m → m ≤ n → lookH (stN its s0 (fun j => p j || Nat.beq j i) m).hp id = updH (its i).wr (lookH (stN its s0 p n).hp) id := by
        intro m
        induction m with
        | zero => intro h; omega
        | succ m ih =>
          intro h1 h2
          simp only [stN]
          by_cases hm : m = i
          · subst hm
            rw [hpii]
            show lookH (effI _ _).hp id = _
            rw [eff_heap]
            exact updH_in hd
          · rw [hpi m hm]
            cases hpm : p m
            · exact ih (by omega) (by omega)
            · show lookH (effI _ _).hp id = _
              rw [eff_heap, updH_not ((hind m (by omega) (by omega) hpm).aw id hd)]
              exact ih (by omega) (by omega)
      exact (key n hi (Nat.le_refl _)).symm
    · rw [updH_not hd]
      refine st_heap n fun j _ hj => ?_
      by_cases e : j = i
      · subst e; exact absurd hj hd
      · exact (hpi j e).symm
  · show (stN its s0 p n).n = _
    rw [st_n, st_n]
/-- those ahead of i, out of n -/
theorem st_ahead {i : Nat} : ∀ (n : Nat), stN its s0 (fun j => Nat.blt j i) n = stN its s0 (fun _ => true) (min n i)
  | 0 => by rw [Nat.zero_min]; rfl
  | n + 1 => by
    have ih := st_ahead (i := i) n
    simp only [stN]
    rw [ih]
    rcases Nat.lt_or_ge n i with h | h
    · have hb : Nat.blt n i = true := Nat.ble_eq_true_of_le h
      rw [hb, show min n i = n by omega, show min (n + 1) i = n + 1 by omega]
      rfl
    · have hb : Nat.blt n i = false := Bool.eq_false_iff.2 (fun hb => by have : n < i := Nat.le_of_ble_eq_true hb; omega)
      rw [hb, show min n i = i by omega, show min (n + 1) i = i by omega]
      rfl
end
end Go.Am
