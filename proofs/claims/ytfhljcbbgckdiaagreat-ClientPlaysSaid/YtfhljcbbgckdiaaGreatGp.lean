/- Part Gp of the proof: laws used by the law of this claim. -/
import Derived.Orders
import Derived.KernelRfl
import Derived.LoopN
import Derived.Test.YtfhljcbbgckdiaaGreatGc
set_option linter.all false
namespace Go.Am
open Go Go.RowKit Go.Bas
section
variable {hp hp' : Nat → Option Blk}
mutual
theorem low_congr {vw : Bool} : ∀ (v : V) (sh : Sh), (∀ i ∈ ids v, hp i = hp' i) → low vw hp sh v = low vw hp' sh v
 | .own id n s, sh, h => by
  have := h id (by simp [ids])
  cases sh <;> simp only [low, this]
 | .win id p off lo n c s, sh, h => by
  have := h id (by simp [ids])
  cases sh <;> simp only [low, this]
 | .agg l, sh, h => by
  cases sh <;> simp only [low]
  rw [lows_congr l _ h]
 | .int _ _, sh, _ => by cases sh <;> simp only [low]
 | .bool _, sh, _ => by cases sh <;> simp only [low]
 | .str _, sh, _ => by cases sh <;> simp only [low]
 | .nils, sh, _ => by cases sh <;> simp only [low]
 | .bytes _, sh, _ => by cases sh <;> simp only [low]
 | .rows _ _, sh, _ => by cases sh <;> simp only [low]
 | .barr _ _, sh, _ => by cases sh <;> simp only [low]
 | .arr _ _ _, sh, _ => by cases sh <;> simp only [low]
 | .tup _, sh, _ => by cases sh <;> simp only [low]
 | .ref id _ _ _, sh, h => by
  have := h id (by simp [ids])
  cases sh with
  | other k => cases k <;> simp only [low, this]
  | _ => simp only [low]
 | .vref _ _, sh, _ => by cases sh <;> simp only [low]
 | .ownv _ _, sh, _ => by cases sh <;> simp only [low]
 | .fn _ _ _, sh, _ => by cases sh <;> simp only [low]
 | .ifc _ _, sh, _ => by cases sh <;> simp only [low]
 | .mv _ _ _, sh, _ => by cases sh <;> simp only [low]
 | .avs _ _ _, sh, _ => by cases sh <;> simp only [low]
 | .nil _, sh, _ => by cases sh <;> simp only [low]
 | .void, sh, _ => by cases sh <;> simp only [low]
 | .undef, sh, _ => by cases sh <;> simp only [low]
theorem lows_congr {vw : Bool} : ∀ (l : List V) (sh : List Sh), (∀ i ∈ idss l, hp i = hp' i) → lows vw hp sh l = lows vw hp' sh l
 | [], sh, _ => by cases sh <;> simp only [lows]
 | v :: l, sh, h => by
  cases sh with
  | nil => simp only [lows]
  | cons s sh => simp only [lows]; rw [low_congr v s (fun i hi => h i (by simp [idss, hi])), lows_congr l sh (fun i hi => h i (by simp [idss, hi]))]
end
theorem seal_congr {l : List Nat} (h : ∀ i ∈ l, hp i = hp' i) : sealB hp l = sealB hp' l := by
 unfold sealB
 exact List.map_congr_left fun i hi => by rw [h i hi]
theorem sliceC_congr {v : V} (h : ∀ i ∈ ids v, hp i = hp' i) : sliceC hp v = sliceC hp' v := by
 cases v with
 | own id n s =>
  show (hp id).map contV = (hp' id).map contV
  rw [h id (by simp [ids])]
 | win id p off lo n c s =>
  simp only [sliceC]
  rw [h id (by simp [ids])]
 | _ => rfl
mutual
theorem varW_congr : ∀ (v : V), (∀ i ∈ ids v, hp i = hp' i) → varW hp v = varW hp' v
 | .win id p off lo n c s, h => by simp only [varW]; rw [h id (by simp [ids])]
 | .agg l, h => by simp only [varW]; exact anyVar_congr l h
 | .own _ _ _, _ => rfl
 | .int _ _, _ => rfl
 | .bool _, _ => rfl
 | .str _, _ => rfl
 | .nils, _ => rfl
 | .bytes _, _ => rfl
 | .rows _ _, _ => rfl
 | .barr _ _, _ => rfl
 | .arr _ _ _, _ => rfl
 | .tup _, _ => rfl
 | .ref id _ _ _, h => by simp only [varW]; rw [h id (by simp [ids])]
 | .vref _ _, _ => rfl
 | .ownv _ _, _ => rfl
 | .fn _ _ _, _ => rfl
 | .ifc _ _, _ => rfl
 | .mv _ _ _, _ => rfl
 | .avs _ _ _, _ => rfl
 | .nil _, _ => rfl
 | .void, _ => rfl
 | .undef, _ => rfl
theorem anyVar_congr : ∀ (l : List V), (∀ i ∈ idss l, hp i = hp' i) → anyVar hp l = anyVar hp' l
 | [], _ => rfl
 | v :: l, h => by
  simp only [anyVar]
  rw [varW_congr v (fun i hi => h i (by simp [idss, hi])), anyVar_congr l (fun i hi => h i (by simp [idss, hi]))]
end
theorem copyV_congr {x : V} {src : List UInt8} (h : ∀ i ∈ ids x, hp i = hp' i) : copyV hp x src = copyV hp' x src := by
 cases x with
 | own id n s =>
  have := h id (by simp [ids])
  cases s with
  | int k => cases k <;> simp only [copyV, this]
  | _ => rfl
 | win id p off lo n c s =>
  have := h id (by simp [ids])
  cases s with
  | int k => cases k <;> simp only [copyV, this]
  | _ => rfl
 | _ => rfl
theorem appV_congr {x y : V} (h : ∀ i ∈ idss [x, y], hp i = hp' i) : appV hp x y = appV hp' x y := by
 unfold appV
 rw [sliceC_congr (fun i hi => h i (by simp [idss, hi]))]
 split
 ·cases x <;> try rfl
  rename_i id n s
  simp only [h id (by simp [idss, ids])]
 ·rfl
theorem appOk_congr {T : TypeId} {x : V} (h : ∀ i ∈ ids x, hp i = hp' i) : appOk hp T x = appOk hp' T x := by
 cases x <;> try rfl
 rename_i id n s
 simp only [appOk, h id (by simp [ids])]
theorem act_congr {P : Program} {G : List (Nat × Con)} {o : Oper} {vs : List V} {nid : Nat} (h : ∀ i ∈ tchOf o vs, hp i = hp' i) : act P G o vs hp nid = act P G o vs hp' nid := by
 obtain ⟨dst, op, type, pos, aft, guard⟩ := o
 cases op with
 | load t x =>
  have h : ∀ i ∈ idss vs, hp i = hp' i := h
  match vs, h with
  | [], _ => rfl
  | [x], h =>
   cases x with
   | ref id p off sh => simp only [act, h id (by simp [idss, ids])]
   | _ => rfl
  | _ :: _ :: _, _ => rfl
 | store t x y =>
  have h : ∀ i ∈ idss vs, hp i = hp' i := h
  match vs, h with
  | [], _ => rfl
  | [_], _ => rfl
  | [x, y], h =>
   cases x with
   | ref id p off sh => simp only [act, h id (by simp [idss, ids]), low_congr y sh (fun i hi => h i (by simp [idss, hi])), seal_congr (l := ids y) (fun i hi => h i (by simp [idss, hi]))]
   | _ => rfl
  | _ :: _ :: _ :: _, _ => rfl
 | convert s d x =>
  have h : ∀ i ∈ idss vs, hp i = hp' i := h
  match vs, h with
  | [], _ => rfl
  | [x], h =>
   have : convV P s d x hp = convV P s d x hp' := by
    have hs := sliceC_congr (v := x) (fun i hi => h i (by simp [idss, hi]))
    unfold convV
    split <;> try rfl
    split <;> try rfl
    rw [hs]
   simp only [act, this]
  | _ :: _ :: _, _ => rfl
 | buildSlice t n parts =>
  have h : ∀ i ∈ idss vs, hp i = hp' i := h
  simp only [act, lows_congr vs _ h, seal_congr h]
 | call c =>
  obtain ⟨cal, args, ats⟩ := c
  have hcon : ∀ f vs', (∀ i ∈ idss vs', hp i = hp' i) → conR G hp nid f vs' = conR G hp' nid f vs' := by
   intro f vs' h
   unfold conR resR
   split
   ·rw [lows_congr vs' _ h, seal_congr h, anyVar_congr vs' h]
   ·rename_i T F _
    cases vs' with
    | nil => rfl
    | cons x as =>
     have h1 : ∀ y, appV hp x (.bytes y) = appV hp' x (.bytes y) := fun y => appV_congr (fun i hi => h i (by simp only [idss, ids, List.append_nil] at hi ⊢; exact List.mem_append_left _ hi))
     have h2 : appOk hp T x = appOk hp' T x := appOk_congr (fun i hi => h i (by simp only [idss]; exact List.mem_append_left _ hi))
     unfold appR
     simp only [h1, h2]
   ·rfl
  cases cal with
  | invoke x m => rfl
  | builtin b =>
   have hb : bltR P b ats.toList vs hp nid = bltR P b ats.toList vs hp' nid := by
    generalize ats.toList = tl
    unfold bltR
    split <;> try rfl
    ·rename_i t t' x y
     have h : ∀ i ∈ idss [x, y], hp i = hp' i := h
     rw [sliceC_congr (v := y) (fun i hi => h i (by simp [idss, hi]))]
     simp only [copyV_congr (x := x) (fun i hi => h i (by simp [idss, hi]))]
    rename_i t t' x y
    have h : ∀ i ∈ idss [x, y], hp i = hp' i := h
    rw [appV_congr h]
    simp only [appOk_congr (x := x) (fun i hi => h i (by simp [idss, hi]))]
   cases vs <;> exact hb
  | value x =>
   have h : ∀ i ∈ idss vs, hp i = hp' i := h
   cases x with
   | func f => cases vs <;> exact hcon f _ h
   | _ =>
    cases vs with
    | nil => rfl
    | cons v vs =>
     cases v with
     | fn f a b =>
      refine hcon f _ fun i hi => h i ?_
      have key : ∀ (l m : List V), idss (l ++ m) = idss l ++ idss m := by
       intro l m
       induction l with
       | nil => rfl
       | cons v l ih => simp [idss, ih]
      rw [key, key] at hi
      show i ∈ (idss a ++ idss b) ++ idss vs
      rcases List.mem_append.1 hi with hi | hi
      ·rcases List.mem_append.1 hi with hi | hi
       ·exact List.mem_append.2 (.inl (List.mem_append.2 (.inl hi)))
       ·exact List.mem_append.2 (.inr hi)
      ·exact List.mem_append.2 (.inl (List.mem_append.2 (.inr hi)))
     | _ => rfl
 | _ => kernel_rfl
end
end Go.Am
namespace Go.Am
open Go Go.RowKit Go.Bas
def effI (it : It) (s : S) : S := ⟨put s.sl it.dst it.v, it.wr ++ s.hp, s.nx + 1, s.ob, s.n⟩
def stN (its : Nat → It) (s0 : S) (p : Nat → Bool) : Nat → S
 | 0 => s0
 | m + 1 => bif p m then effI (its m) (stN its s0 p m) else stN its s0 p m
structure Eqv (s s' : S) : Prop where
 sl : ∀ t, look s.sl t = look s'.sl t
 hp : ∀ id, lookH s.hp id = lookH s'.hp id
 n : s.n = s'.n
section
variable {its : Nat → It} {s0 s s' : S} {p q : Nat → Bool}
theorem Eqv.refl (s : S) : Eqv s s := ⟨fun _ => rfl, fun _ => rfl, rfl⟩
theorem Eqv.trans {s1 s2 s3 : S} (h : Eqv s1 s2) (k : Eqv s2 s3) : Eqv s1 s3 := ⟨fun t => (h.sl t).trans (k.sl t), fun t => (h.hp t).trans (k.hp t), h.n.trans k.n⟩
theorem Eqv.symm (h : Eqv s s') : Eqv s' s := ⟨fun t => (h.sl t).symm, fun t => (h.hp t).symm, h.n.symm⟩
theorem updH_not {wr : List (Nat × Option Blk)} {hp : Nat → Option Blk} {id : Nat} (h : id ∉ keysW wr) : updH wr hp id = hp id := by
 induction wr with
 | nil => rfl
 | cons a wr ih =>
  obtain ⟨x, v⟩ := a
  simp only [keysW, List.mem_cons, not_or] at h
  simp only [updH]
  rw [if_neg (Ne.symm h.1), ih h.2]
theorem updH_in {wr : List (Nat × Option Blk)} {hp hp' : Nat → Option Blk} {id : Nat} (h : id ∈ keysW wr) : updH wr hp id = updH wr hp' id := by
 induction wr with
 | nil => cases h
 | cons a wr ih =>
  obtain ⟨x, v⟩ := a
  simp only [updH]
  by_cases hx : x = id
  ·rw [if_pos hx, if_pos hx]
  ·rw [if_neg hx, if_neg hx]
   simp only [keysW, List.mem_cons] at h
   exact ih (h.resolve_left (Ne.symm hx))
theorem eff_slot {it : It} {t : Nat} : look (effI it s).sl t = if it.dst = some t then some it.v else look s.sl t := look_put
theorem eff_heap {it : It} {id : Nat} : lookH (effI it s).hp id = updH it.wr (lookH s.hp) id := by
 show lookH (it.wr ++ s.hp) id = _
 rw [lookH_append]
theorem Eqv.eff (h : Eqv s s') (it : It) : Eqv (effI it s) (effI it s') := by
 refine ⟨fun t => by rw [eff_slot, eff_slot, h.sl], fun id => ?_, h.n⟩
 rw [eff_heap, eff_heap, show lookH s.hp = lookH s'.hp from funext h.hp]
theorem Eqv.st (h : Eqv s s') : ∀ m, Eqv (stN its s p m) (stN its s' p m)
 | 0 => h
 | m + 1 => by
  simp only [stN]
  cases p m
  ·exact Eqv.st h m
  ·exact (Eqv.st h m).eff _
theorem st_n : ∀ m, (stN its s0 p m).n = s0.n
 | 0 => rfl
 | m + 1 => by
  simp only [stN]
  cases p m
  ·exact st_n m
  ·exact st_n m
theorem st_slot {t : Nat} : ∀ m, (∀ i, i < m → (its i).dst = some t → p i = q i) → look (stN its s0 p m).sl t = look (stN its s0 q m).sl t
 | 0, _ => rfl
 | m + 1, h => by
  have ih := st_slot m (fun i hi hd => h i (by omega) hd)
  simp only [stN]
  by_cases hd : (its m).dst = some t
  ·rw [← h m (by omega) hd]
   cases p m
   ·exact ih
   ·show look (effI _ _).sl t = look (effI _ _).sl t
    rw [eff_slot, eff_slot, if_pos hd, if_pos hd]
  ·have e : ∀ (b : Bool) (s : S), look (bif b then effI (its m) s else s).sl t = look s.sl t := by
    intro b s
    cases b
    ·rfl
    ·show look (effI (its m) s).sl t = _
     rw [eff_slot, if_neg hd]
   rw [e, e]
   exact ih
theorem st_heap {id : Nat} : ∀ m, (∀ i, i < m → id ∈ keysW (its i).wr → p i = q i) → lookH (stN its s0 p m).hp id = lookH (stN its s0 q m).hp id
 | 0, _ => rfl
 | m + 1, h => by
  have ih := st_heap m (fun i hi hd => h i (by omega) hd)
  simp only [stN]
  by_cases hd : id ∈ keysW (its m).wr
  ·rw [← h m (by omega) hd]
   cases p m
   ·exact ih
   ·show lookH (effI _ _).hp id = lookH (effI _ _).hp id
    rw [eff_heap, eff_heap]
    exact updH_in hd
  ·have e : ∀ (b : Bool) (s : S), lookH (bif b then effI (its m) s else s).hp id = lookH s.hp id := by
    intro b s
    cases b
    ·rfl
    ·show lookH (effI (its m) s).hp id = _
     rw [eff_heap, updH_not hd]
   rw [e, e]
   exact ih
theorem disj_spec {l m : List Nat} (h : disj l m = true) : ∀ x ∈ l, x ∉ m := by
 have hm : ∀ (x : Nat) (m : List Nat), disj.memN x m = false → x ∉ m := by
  intro x m
  induction m with
  | nil => simp
  | cons y m ih =>
   intro h
   simp only [disj.memN, Bool.or_eq_false_iff] at h
   simp only [List.mem_cons, not_or]
   exact ⟨fun e => by subst e; simp at h, ih h.2⟩
 induction l with
 | nil => simp
 | cons a l ih =>
  simp only [disj, Bool.and_eq_true, Bool.not_eq_true'] at h
  intro x hx
  rcases List.mem_cons.1 hx with rfl | hx
  ·exact hm _ _ h.1
  ·exact ih h.2 x hx
structure Ind (a b : It) : Prop where
 ar : ∀ t, a.dst = some t → t ∉ b.rd
 br : ∀ t, b.dst = some t → t ∉ a.rd
 ab : ∀ t, a.dst = some t → b.dst ≠ some t
 at_ : ∀ i ∈ keysW a.wr, i ∉ b.tch
 bt : ∀ i ∈ keysW b.wr, i ∉ a.tch
 aw : ∀ i ∈ keysW a.wr, i ∉ keysW b.wr
theorem indep_spec {a b : It} (h : indep a b = true) : Ind a b := by
 simp only [indep, Bool.and_eq_true] at h
 obtain ⟨⟨⟨⟨⟨h1, h2⟩, h3⟩, h4⟩, h5⟩, h6⟩ := h
 exact ⟨fun t e => disj_spec h1 t (by rw [e]; simp), fun t e => disj_spec h2 t (by rw [e]; simp), fun t e e2 => disj_spec h3 t (by rw [e]; simp) (by rw [e2]; simp), disj_spec h4, disj_spec h5, disj_spec h6⟩
theorem st_late {n i : Nat} (hi : i < n) (hp : p i = false) (hind : ∀ j, i < j → j < n → p j = true → Ind (its i) (its j)) :
  Eqv (effI (its i) (stN its s0 p n)) (stN its s0 (fun j => p j || Nat.beq j i) n) := by
 have hpi : ∀ j, j ≠ i → (p j || Nat.beq j i) = p j := fun j hj => by
  have : Nat.beq j i = false := Bool.eq_false_iff.2 (fun hb => hj (Nat.eq_of_beq_eq_true hb))
  rw [this, Bool.or_false]
 have hpii : (p i || Nat.beq i i) = true := by simp
 refine ⟨fun t => ?_, fun id => ?_, ?_⟩
 ·rw [eff_slot]
  by_cases hd : (its i).dst = some t
  ·rw [if_pos hd]
   have key : ∀ m, i < m → m ≤ n → look (stN its s0 (fun j => p j || Nat.beq j i) m).sl t = some (its i).v := by
    intro m
    induction m with
    | zero => intro h; omega
    | succ m ih =>
     intro h1 h2
     simp only [stN]
     by_cases hm : m = i
     ·subst hm
      rw [hpii]
      show look (effI _ _).sl t = _
      rw [eff_slot, if_pos hd]
     ·rw [hpi m hm]
      cases hpm : p m
      ·exact ih (by omega) (by omega)
      ·show look (effI _ _).sl t = _
       rw [eff_slot, if_neg ((hind m (by omega) (by omega) hpm).ab t hd)]
       exact ih (by omega) (by omega)
   exact (key n hi (Nat.le_refl _)).symm
  ·rw [if_neg hd]
   refine st_slot n fun j _ hj => ?_
   by_cases e : j = i
   ·subst e; exact absurd hj hd
   ·exact (hpi j e).symm
 ·rw [eff_heap]
  by_cases hd : id ∈ keysW (its i).wr
  ·have key : ∀ m, i < m → m ≤ n → lookH (stN its s0 (fun j => p j || Nat.beq j i) m).hp id = updH (its i).wr (lookH (stN its s0 p n).hp) id := by
    intro m
    induction m with
    | zero => intro h; omega
    | succ m ih =>
     intro h1 h2
     simp only [stN]
     by_cases hm : m = i
     ·subst hm
      rw [hpii]
      show lookH (effI _ _).hp id = _
      rw [eff_heap]
      exact updH_in hd
     ·rw [hpi m hm]
      cases hpm : p m
      ·exact ih (by omega) (by omega)
      ·show lookH (effI _ _).hp id = _
       rw [eff_heap, updH_not ((hind m (by omega) (by omega) hpm).aw id hd)]
       exact ih (by omega) (by omega)
   exact (key n hi (Nat.le_refl _)).symm
  ·rw [updH_not hd]
   refine st_heap n fun j _ hj => ?_
   by_cases e : j = i
   ·subst e; exact absurd hj hd
   ·exact (hpi j e).symm
 ·show (stN its s0 p n).n = _
  rw [st_n, st_n]
theorem st_ahead {i : Nat} : ∀ (n : Nat), stN its s0 (fun j => Nat.blt j i) n = stN its s0 (fun _ => true) (min n i)
 | 0 => by rw [Nat.zero_min]; rfl
 | n + 1 => by
  have ih := st_ahead (i := i) n
  simp only [stN]
  rw [ih]
  rcases Nat.lt_or_ge n i with h | h
  ·have hb : Nat.blt n i = true := Nat.ble_eq_true_of_le h
   rw [hb, show min n i = n by omega, show min (n + 1) i = n + 1 by omega]
   rfl
  ·have hb : Nat.blt n i = false := Bool.eq_false_iff.2 (fun hb => by have : n < i := Nat.le_of_ble_eq_true hb; omega)
   rw [hb, show min n i = i by omega, show min (n + 1) i = i by omega]
   rfl
end
end Go.Am
namespace Go.Am
open Go Go.RowKit Go.Bas
section
variable {E : Env} {all : List Oper} {R : Type}
def GuardRun (all : List Oper) (o : Oper) (s : S) : Prop := o.guard = none ∨ ∃ j want t, o.guard = some (j, want) ∧ (nthL all j).bind (·.dst) = some t ∧ look s.sl t = some (.bool want)
def GuardSkip (all : List Oper) (o : Oper) (s : S) : Prop := ∃ j want t, o.guard = some (j, want) ∧ (nthL all j).bind (·.dst) = some t ∧ (look s.sl t = some .void ∨ look s.sl t = some (.bool (!want)))
structure Makes (E : Env) (all : List Oper) (nid : Nat) (o : Oper) (s : S) (it : It) : Prop where
 dok : dstOk s.n o.dst = true
 dst : it.dst = o.dst
 rd : it.rd = rdsO all o
 run : (GuardRun all o s ∧ ∃ vs r, mapO (evO s.sl) (opnds o) = some vs ∧ inlOf E o vs = none ∧ act E.P E.G o vs (lookH s.hp) nid = some r ∧ r.ob = true ∧ it.v = r.v ∧ it.wr = r.wr ∧ it.tch = tchOf o vs) ∨
  (GuardSkip all o s ∧ it.v = .void ∧ it.wr = [] ∧ it.tch = [])
theorem mapO_congr {α β : Type} {f g : α → Option β} : ∀ (l : List α), (∀ x ∈ l, f x = g x) → mapO f l = mapO g l
 | [], _ => rfl
 | x :: l, h => by simp only [mapO]; rw [h x (by simp), mapO_congr l (fun y hy => h y (by simp [hy]))]
theorem tmps_mem : ∀ {l : List Operand} {t : Nat}, .tmp t ∈ l → t ∈ tmpsOf l
 | x :: l, t, h => by
  rcases List.mem_cons.1 h with rfl | h
  ·simp [tmpsOf]
  ·have := tmps_mem h
   cases x <;> simp [tmpsOf, this]
theorem Makes.agree {nid : Nat} {o : Oper} {s s' : S} {it : It} (h : Makes E all nid o s it) (h1 : ∀ t ∈ it.rd, look s.sl t = look s'.sl t) (h2 : ∀ i ∈ it.tch, lookH s.hp i = lookH s'.hp i) (h3 : s.n = s'.n) : Makes E all nid o s' it := by
 have hrd := h.rd
 have hg : ∀ {j want t}, o.guard = some (j, want) → (nthL all j).bind (·.dst) = some t → look s.sl t = look s'.sl t := by
  intro j want t hg ht
  refine h1 t ?_
  rw [hrd]
  simp [rdsO, hg, ht]
 refine ⟨by rw [← h3]; exact h.dok, h.dst, h.rd, ?_⟩
 rcases h.run with ⟨g, vs, r, a1, a2, a3, a4, a5, a6, a7⟩ | ⟨⟨j, want, t, g1, g2, g3⟩, b⟩
 ·refine .inl ⟨?_, vs, r, ?_, a2, ?_, a4, a5, a6, a7⟩
  ·rcases g with g | ⟨j, want, t, g1, g2, g3⟩
   ·exact .inl g
   ·exact .inr ⟨j, want, t, g1, g2, by rw [← hg g1 g2]; exact g3⟩
  ·rw [← a1]
   refine (mapO_congr _ fun x hx => ?_).symm
   cases x with
   | tmp t =>
    refine h1 t ?_
    rw [hrd]
    exact List.mem_append.2 (.inr (tmps_mem hx))
   | _ => rfl
  ·rw [← a3]
   exact (act_congr fun i hi => h2 i (by rw [a7]; exact hi)).symm
 ·exact .inr ⟨⟨j, want, t, g1, g2, by rw [← hg g1 g2]; exact g3⟩, b⟩
theorem Makes.eqv {nid : Nat} {o : Oper} {s s' : S} {it : It} (h : Makes E all nid o s it) (e : Eqv s s') : Makes E all nid o s' it := h.agree (fun t _ => e.sl t) (fun i _ => e.hp i) e.n
def itf (l : List It) : Nat → It := fun i => l.getD i default
theorem st_shift {it : It} {l : List It} {s : S} : ∀ m, stN (itf (it :: l)) s (fun _ => true) (m + 1) = stN (itf l) (effI it s) (fun _ => true) m
 | 0 => rfl
 | m + 1 => by
  show effI (itf (it :: l) (m + 1)) (stN (itf (it :: l)) s (fun _ => true) (m + 1)) = effI (itf l m) (stN (itf l) (effI it s) (fun _ => true) m)
  rw [st_shift m]
  rfl
theorem setS_eqv {s : S} {t : Nat} {b c : Bool} (h : look s.sl t = some (.bool b)) (e : b = c) : Eqv (setS s t c) s := by
 subst e
 refine ⟨fun u => ?_, fun _ => rfl, rfl⟩
 show look ((t, V.bool b) :: s.sl) u = _
 simp only [look]
 cases hq : Nat.beq t u with
 | true => have := Nat.eq_of_beq_eq_true hq; subst this; exact h.symm
 | false => rfl
theorem runDr_spec : ∀ (ops : List Oper) (s : S) (k : S → List It → Option R) (r : R), runDr E all ops s k = some r →
  ∃ l sF, k sF l = some r ∧ l.length = ops.length ∧ Eqv sF (stN (itf l) s (fun _ => true) ops.length) ∧ sF.nx = s.nx + ops.length ∧ (sF.ob = true → s.ob = true) ∧
   (sF.ob = true → ∀ j o, ops[j]? = some o → Makes E all (s.nx + j) o (stN (itf l) s (fun _ => true) j) (itf l j)) := by
 intro ops
 induction ops with
 | nil => intro s k r h; exact ⟨[], s, h, rfl, Eqv.refl _, rfl, id, fun _ j o hj => by simp at hj⟩
 | cons o ops ih =>
  intro s k r h
  have act1 : ∀ {s1 : S}, Eqv s1 s → s1.nx = s.nx → s1.ob = s.ob → GuardRun all o s → actD E all o s1 (fun s it => runDr E all ops s fun s l => k s (it :: l)) = some r →
    ∃ l sF, k sF l = some r ∧ l.length = (o :: ops).length ∧ Eqv sF (stN (itf l) s (fun _ => true) (o :: ops).length) ∧ sF.nx = s.nx + (o :: ops).length ∧ (sF.ob = true → s.ob = true) ∧
     (sF.ob = true → ∀ j o', (o :: ops)[j]? = some o' → Makes E all (s.nx + j) o' (stN (itf l) s (fun _ => true) j) (itf l j)) := by
   intro s1 he hnx hob hg h
   unfold actD at h
   obtain ⟨hd, h⟩ := ofBif h
   split at h
   ·cases h
   ·rename_i vs hvs
    split at h
    ·cases h
    ·rename_i hin
     split at h
     ·rename_i res hact
      obtain ⟨l, sF, h1, h2, h3, h4, h5, h6⟩ := ih _ _ _ h
      have hob' : sF.ob = true → s1.ob = true ∧ res.ob = true := fun hb => by
       have : andT s1.ob res.ob = true := h5 hb
       revert this
       cases s1.ob <;> cases res.ob <;> simp [andT]
      have hE : Eqv (s1.apply o.dst res) (effI ⟨o.dst, res.v, res.wr, rdsO all o, tchOf o vs⟩ s) := Eqv.trans (s2 := effI ⟨o.dst, res.v, res.wr, rdsO all o, tchOf o vs⟩ s1) ⟨fun _ => rfl, fun _ => rfl, rfl⟩ (he.eff _)
      refine ⟨_ :: l, sF, h1, by simp [h2], ?_, by rw [h4]; show s1.nx + 1 + ops.length = _; simp; omega, fun hb => by rw [← hob]; exact (hob' hb).1, fun hb j o' hj => ?_⟩
      ·rw [List.length_cons, st_shift]
       exact h3.trans (hE.st _)
      ·cases j with
       | zero =>
        simp at hj; subst hj
        refine Makes.eqv (s := s1) ⟨hd, rfl, rfl, .inl ⟨?_, vs, res, hvs, hin, ?_, (hob' hb).2, rfl, rfl, rfl⟩⟩ he
        ·rcases hg with g | ⟨j, want, t, g1, g2, g3⟩
         ·exact .inl g
         ·exact .inr ⟨j, want, t, g1, g2, by rw [he.sl]; exact g3⟩
        ·rw [Nat.add_zero, ← hnx]; exact hact
       | succ j =>
        have := h6 hb j o' (by simpa using hj)
        rw [st_shift]
        have hm := this.eqv (hE.st (p := fun _ => true) (its := itf l) j)
        rw [show s.nx + (j + 1) = (s1.apply o.dst res).nx + j from by show _ = s1.nx + 1 + j; omega]
        exact hm
     ·cases h
  have skip1 : ∀ {s1 : S}, Eqv s1 s → s1.nx = s.nx → s1.ob = s.ob → GuardSkip all o s → skipD all o s1 (fun s it => runDr E all ops s fun s l => k s (it :: l)) = some r →
    ∃ l sF, k sF l = some r ∧ l.length = (o :: ops).length ∧ Eqv sF (stN (itf l) s (fun _ => true) (o :: ops).length) ∧ sF.nx = s.nx + (o :: ops).length ∧ (sF.ob = true → s.ob = true) ∧
     (sF.ob = true → ∀ j o', (o :: ops)[j]? = some o' → Makes E all (s.nx + j) o' (stN (itf l) s (fun _ => true) j) (itf l j)) := by
   intro s1 he hnx hob hg h
   obtain ⟨hd, h⟩ := ofBif h
   obtain ⟨l, sF, h1, h2, h3, h4, h5, h6⟩ := ih _ _ _ h
   have hE : Eqv (skipO o s1) (effI ⟨o.dst, .void, [], rdsO all o, []⟩ s) := Eqv.trans (s2 := effI ⟨o.dst, .void, [], rdsO all o, []⟩ s1) ⟨fun _ => rfl, fun _ => rfl, rfl⟩ (he.eff _)
   refine ⟨_ :: l, sF, h1, by simp [h2], ?_, by rw [h4]; show s1.nx + 1 + ops.length = _; simp; omega, fun hb => by rw [← hob]; exact h5 hb, fun hb j o' hj => ?_⟩
   ·rw [List.length_cons, st_shift]
    exact h3.trans (hE.st _)
   ·cases j with
    | zero =>
     simp at hj; subst hj
     obtain ⟨j, want, t, g1, g2, g3⟩ := hg
     exact Makes.eqv (s := s1) ⟨hd, rfl, rfl, .inr ⟨⟨j, want, t, g1, g2, by rw [he.sl]; exact g3⟩, rfl, rfl, rfl⟩⟩ he
    | succ j =>
     have := h6 hb j o' (by simpa using hj)
     rw [st_shift]
     have hm := this.eqv (hE.st (p := fun _ => true) (its := itf l) j)
     rw [show s.nx + (j + 1) = (skipO o s1).nx + j from by show _ = s1.nx + 1 + j; omega]
     exact hm
  unfold runDr at h
  split at h
  ·rename_i hg
   exact act1 (Eqv.refl s) rfl rfl (.inl hg) h
  ·rename_i j want hg
   split at h
   ·cases h
   ·rename_i t ht
    split at h
    ·rename_i b hb
     cases b
     ·cases want
      ·exact act1 (setS_eqv hb rfl) rfl rfl (.inr ⟨j, false, t, hg, ht, hb⟩) h
      ·exact skip1 (setS_eqv hb rfl) rfl rfl ⟨j, true, t, hg, ht, .inr hb⟩ h
     ·cases want
      ·exact skip1 (setS_eqv hb rfl) rfl rfl ⟨j, false, t, hg, ht, .inr hb⟩ h
      ·exact act1 (setS_eqv hb rfl) rfl rfl (.inr ⟨j, true, t, hg, ht, hb⟩) h
    ·rename_i hb
     exact skip1 (Eqv.refl s) rfl rfl ⟨j, want, t, hg, ht, .inl hb⟩ h
    ·cases h
theorem hasBit_spec {m i : Nat} (h : hasBit m i = true) : Nat.testBit m i = true := by
 have h : (m >>> i) &&& 1 = 1 := Nat.eq_of_beq_eq_true h
 unfold Nat.testBit
 rw [Nat.and_comm, h]
 rfl
theorem maskOf_spec {acc : List Nat} {j k : Nat} : ∀ {ds : List Nat}, Nat.testBit (maskOf acc j ds) k = true → ∃ i ∈ ds, k = i ∨ Nat.testBit (nthM acc (j - 1 - i)) k = true
 | [], h => by simp [maskOf] at h
 | i :: r, h => by
  have h : Nat.testBit ((1 <<< i ||| nthM acc (j - 1 - i)) ||| maskOf acc j r) k = true := h
  rw [Nat.testBit_or, Nat.testBit_or, Bool.or_eq_true, Bool.or_eq_true] at h
  rcases h with (h | h) | h
  ·refine ⟨i, by simp, .inl ?_⟩
   rw [Nat.testBit_shiftLeft, Bool.and_eq_true, decide_eq_true_eq] at h
   obtain ⟨h1, h2⟩ := h
   have : k - i = 0 := by
    rcases Nat.eq_zero_or_pos (k - i) with h0 | h0
    ·exact h0
    ·obtain ⟨q, hq⟩ := Nat.exists_eq_succ_of_ne_zero (Nat.pos_iff_ne_zero.1 h0)
     rw [hq] at h2
     simp [Nat.testBit_succ] at h2
   omega
  ·exact ⟨i, by simp, .inr h⟩
  ·obtain ⟨i', h1, h2⟩ := maskOf_spec h
   exact ⟨i', by simp [h1], h2⟩
theorem ancs_pre : ∀ (ops : List Oper) (acc : List (List Nat)) {i : Nat}, i < acc.length → (ancs ops acc)[i]? = acc[i]?
 | [], acc, i, h => rfl
 | o :: r, acc, i, h => by
  unfold ancs
  rw [ancs_pre r _ (by simp; omega), List.getElem?_append_left h]
theorem nthM_eq (l : List Nat) (i : Nat) : nthM l i = (l[i]?).getD 0 := by
 induction l generalizing i with
 | nil => rfl
 | cons x l ih => cases i with | zero => rfl | succ i => simpa [nthM] using ih i
theorem chkP_spec {it : It} {m : Nat} : ∀ {prev : List It} {k : Nat}, chkP it m prev k = true → k = prev.length → ∀ i a, prev.reverse[i]? = some a → Nat.testBit m i = true ∨ indep a it = true
 | [], k, h, hk, i, a, ha => by simp at ha
 | b :: prev, k, h, hk, i, a, ha => by
  simp only [chkP, Bool.and_eq_true, Bool.or_eq_true] at h
  rw [List.reverse_cons] at ha
  rcases Nat.lt_or_ge i prev.length with hlt | hge
  ·rw [List.getElem?_append_left (by simpa using hlt)] at ha
   exact chkP_spec h.2 (by simp at hk; omega) i a ha
  ·rw [List.getElem?_append_right (by simpa using hge)] at ha
   have hi : i - prev.reverse.length = 0 := by
    rcases Nat.eq_zero_or_pos (i - prev.reverse.length) with h0 | h0
    ·exact h0
    ·rw [List.getElem?_eq_none (by simp; simp at h0; omega)] at ha; cases ha
   rw [hi] at ha
   injection ha with ha; subst ha
   have e : k - 1 = i := by simp at hk hi; omega
   rw [e] at h
   exact h.1.imp hasBit_spec id
theorem chkD_spec : ∀ (ops : List Oper) (its : List It) (j : Nat) (acc : List Nat) (prev : List It) (acc0 : List (List Nat)), chkD ops its j acc prev = true → prev.length = j → acc.length = j → acc0.length = j →
  (∀ i, i < j → ∀ k, Nat.testBit (nthM acc (j - 1 - i)) k = true → ∃ l, acc0[i]? = some l ∧ k ∈ l) →
  its.length = ops.length ∧ (∀ q o, ops[q]? = some o → ∀ i ∈ dirs o, i < j + q) ∧
  (∀ q it, its[q]? = some it → ∀ i a, (prev.reverse ++ its)[i]? = some a → i < j + q → (∃ l, (ancs ops acc0)[j + q]? = some l ∧ i ∈ l) ∨ indep a it = true)
 | [], [], j, acc, prev, acc0, _, _, _, _, _ => ⟨rfl, fun q o h => by simp at h, fun q it h => by simp at h⟩
 | [], _ :: _, _, _, _, _, h, _, _, _, _ => by simp [chkD] at h
 | _ :: _, [], _, _, _, _, h, _, _, _, _ => by simp [chkD] at h
 | o :: r, it :: l, j, acc, prev, acc0, h, h1, h2, h3, hm => by
  simp only [chkD, Bool.and_eq_true] at h
  obtain ⟨⟨hd, hp⟩, hr⟩ := h
  have hd' : ∀ i ∈ dirs o, i < j := fun i hi => Nat.le_of_ble_eq_true (List.all_eq_true.1 hd i hi)
  have hmask : ∀ k, Nat.testBit (maskOf acc j (dirs o)) k = true → k ∈ dirs o ++ (dirs o).flatMap fun j => (nthL acc0 j).getD [] := by
   intro k hk
   obtain ⟨i, hi, rfl | hk⟩ := maskOf_spec hk
   ·simp [hi]
   ·obtain ⟨l', e1, e2⟩ := hm i (hd' i hi) k hk
    rw [List.mem_append]; right
    rw [List.mem_flatMap]
    exact ⟨i, hi, by rw [nthL_eq, e1]; exact e2⟩
  obtain ⟨q1, q2, q3⟩ := chkD_spec r l (j + 1) (maskOf acc j (dirs o) :: acc) (it :: prev) (acc0 ++ [dirs o ++ (dirs o).flatMap fun j => (nthL acc0 j).getD []]) hr (by simp [h1]) (by simp [h2]) (by simp [h3]) (by
   intro i hi k hk
   rcases Nat.lt_or_ge i j with hlt | hge
   ·rw [show j + 1 - 1 - i = (j - 1 - i) + 1 by omega] at hk
    obtain ⟨l', e1, e2⟩ := hm i hlt k hk
    exact ⟨l', by rw [List.getElem?_append_left (by omega)]; exact e1, e2⟩
   ·have : i = j := by omega
    subst this
    rw [show i + 1 - 1 - i = 0 by omega] at hk
    refine ⟨_, ?_, hmask k hk⟩
    rw [List.getElem?_append_right (by omega), h3, Nat.sub_self]; rfl)
  refine ⟨by simp [q1], fun q o' ho i hi => ?_, fun q it' hit i a ha hlt => ?_⟩
  ·cases q with
   | zero => injection ho with ho; subst ho; have := hd' i hi; omega
   | succ q => have := q2 q o' (by simpa using ho) i hi; omega
  ·cases q with
   | zero =>
    injection hit with hit; subst hit
    have hlt' : i < prev.reverse.length := by simp; omega
    rw [List.getElem?_append_left hlt'] at ha
    rcases chkP_spec hp h1.symm i a ha with hb | hb
    ·left
     refine ⟨_, ?_, hmask i hb⟩
     unfold ancs
     rw [ancs_pre r _ (by simp; omega), List.getElem?_append_right (by omega)]
     simp [h3]
    ·exact .inr hb
   | succ q =>
    have ha' : ((it :: prev).reverse ++ l)[i]? = some a := by rw [List.reverse_cons, List.append_assoc]; exact ha
    have := q3 q it' (by simpa using hit) i a ha' (by omega)
    rw [show j + 1 + q = j + (q + 1) by omega] at this
    exact this
def Closed (all : List Oper) (p : Nat → Bool) : Prop := ∀ j o, p j = true → all[j]? = some o → ∀ i ∈ dirs o, p i = true
theorem ancs_spec (all0 : List Oper) (p : Nat → Bool) (hc : Closed all0 p) : ∀ (ops : List Oper) (acc : List (List Nat)) (b : Nat), acc.length = b → all0.drop b = ops →
  (∀ (j : Nat) (l : List Nat), acc[j]? = some l → ∀ o, all0[j]? = some o → (∀ i ∈ dirs o, p i = true) → ∀ i ∈ l, p i = true) →
  ∀ (j : Nat) (l : List Nat), (ancs ops acc)[j]? = some l → ∀ o, all0[j]? = some o → (∀ i ∈ dirs o, p i = true) → ∀ i ∈ l, p i = true
 | [], acc, b, _, _, h => h
 | o :: ops, acc, b, hb, hd, h => by
  refine ancs_spec all0 p hc ops _ (b + 1) (by simp [hb]) (by rw [← List.drop_drop, hd]; rfl) ?_
  intro j l hj o' ho' hdir i hi
  rcases Nat.lt_or_ge j acc.length with hlt | hge
  ·rw [List.getElem?_append_left hlt] at hj
   exact h j l hj o' ho' hdir i hi
  ·have hjl : j = acc.length := by
    have := (List.getElem?_eq_some_iff.1 hj).1
    simp at this; omega
   subst hjl
   rw [List.getElem?_append_right (Nat.le_refl _), Nat.sub_self] at hj
   injection hj with hj; subst hj
   have hoo : o' = o := by
    have : all0[b]? = some o := by
     have := congrArg (fun l : List Oper => l[0]?) hd
     simpa using this
    rw [hb, this] at ho'
    injection ho' with ho'; exact ho'.symm
   subst hoo
   rcases List.mem_append.1 hi with hi | hi
   ·exact hdir i hi
   ·obtain ⟨m, hm1, hm2⟩ := List.mem_flatMap.1 hi
    cases hq : nthL acc m with
    | none => simp [hq] at hm2
    | some l' =>
     rw [hq] at hm2
     rw [nthL_eq] at hq
     have hpm := hdir m hm1
     cases hom : all0[m]? with
     | none =>
      have hml : m < acc.length := (List.getElem?_eq_some_iff.1 hq).1
      have h1 := List.getElem?_eq_none_iff.1 hom
      have h2 : b < all0.length := by
       rcases Nat.lt_or_ge b all0.length with h' | h'
       ·exact h'
       ·rw [List.drop_eq_nil_of_le h'] at hd; cases hd
      omega
     | some om => exact h m l' hq om hom (fun i hi => hc m om hpm hom i hi) i (by simpa using hm2)
end
end Go.Am
namespace Go.Am
open Go Go.RowKit Go.Bas
section
variable {E : Env} {all : List Oper} {ι : Nat → Option Cn} {O : Nat → Prop} {w0 : Zone} {w : World} {a : Act} {its : Nat → It} {s0 : S} {n : Nat} {p : Nat → Bool}
theorem VRep.void_inv {X : Nat → Prop} {c : Value} (h : VRep ι X w .void c) : c = Go.undef := by
 cases h with
 | void => rfl
 | one h _ => cases h
 | agg h _ => cases h
theorem Sim.getD_get {s : S} (h : Sim ι O w0 s a w) {t : Nat} (ht : t < s.n) : a.tmps[t]? = some (a.tmps.getD t Go.undef) := by
 have : t < a.tmps.size := by rw [h.size]; exact ht
 simp [Array.getD_eq_getD_getElem?, Array.getElem?_eq_getElem this]
theorem Sim.yields {s : S} (h : Sim ι O w0 s a w) {j t : Nat} (hj : (nthL all j).bind (·.dst) = some t) :
  (∀ b, look s.sl t = some (.bool b) → yielded all.toArray a.tmps j = some b) ∧ (look s.sl t = some .void → yielded all.toArray a.tmps j = none) := by
 have hd : (all.toArray[j]?).bind (·.dst) = some t := by rw [← hj, nthL_eq]; simp
 constructor
 ·intro b hb
  obtain ⟨h1, h2⟩ := h.slots t _ hb
  have := h2.bool_inv
  unfold yielded
  rw [hd, Option.bind_some, h.getD_get h1, this]
 ·intro hb
  obtain ⟨h1, h2⟩ := h.slots t _ hb
  have hu := h2.void_inv
  unfold yielded
  rw [hd, Option.bind_some, h.getD_get h1, hu]
  rfl
theorem Sim.eqv {s s' : S} (h : Sim ι O w0 s a w) (e : Eqv s s') (hn : s'.nx = s.nx) : Sim ι O w0 s' a w := by
 have hh : lookH s.hp = lookH s'.hp := funext e.hp
 have hx : XS ι O s' = XS ι O s := by unfold XS; rw [hh]
 exact ⟨⟨by rw [← hh]; exact h.mem, by rw [hn]; exact h.fresh⟩, by rw [← e.n]; exact h.size, fun t v hv => by
  rw [← e.sl] at hv
  rw [← e.n, hx]
  exact h.slots t v hv, h.defers⟩
def sD (its : Nat → It) (s0 : S) (n : Nat) (p : Nat → Bool) : S := { stN its s0 p n with nx := s0.nx + n, ob := true }
structure SimD (ι : Nat → Option Cn) (O : Nat → Prop) (w0 : Zone) (its : Nat → It) (s0 : S) (n : Nat) (p : Nat → Bool) (a : Act) (w : World) : Prop where
 sim : Sim ι O w0 (sD its s0 n p) a w
 fresh : ∀ j, j < n → p j = false → ι (s0.nx + j) = none
def add (p : Nat → Bool) (i : Nat) : Nat → Bool := fun j => p j || Nat.beq j i
theorem opD_ok (hE : EnvOk E) {i : Nat} {o : Oper} (ho : all[i]? = some o) (hi : i < n) (hp : p i = false) (hM : Makes E all (s0.nx + i) o (stN its s0 p n) (its i)) (hl : Eqv (effI (its i) (stN its s0 p n)) (stN its s0 (add p i) n)) (hs : SimD ι O w0 its s0 n p a w)
  {Q : Exit → Act → World → Prop} {K : Act → World → Prop} (hK : ∀ ι' a' w', SimD ι' O w0 its s0 n (add p i) a' w' → Ext ι ι' (XS ι O (sD its s0 n p)) (XS ι' O (sD its s0 n (add p i))) w w' → K a' w') :
  wpOp E.P all.toArray Q i K a w := by
 have hM' : Makes E all (s0.nx + i) o (sD its s0 n p) (its i) := hM.eqv ⟨fun _ => rfl, fun _ => rfl, rfl⟩
 have hdok : dstOk (sD its s0 n p).n o.dst = true := hM'.dok
 have hopt : all.toArray[i]? = some o := by simpa using ho
 have hl' : Eqv { effI (its i) (sD its s0 n p) with nx := s0.nx + n } (sD its s0 n (add p i)) := Eqv.trans (s2 := effI (its i) (stN its s0 p n)) ⟨fun _ => rfl, fun _ => rfl, rfl⟩ (Eqv.trans hl ⟨fun _ => rfl, fun _ => rfl, rfl⟩)
 have hxs : ∀ ι', XS ι' O { effI (its i) (sD its s0 n p) with nx := s0.nx + n } = XS ι' O (sD its s0 n (add p i)) := fun ι' => by
  unfold XS; rw [show lookH ({ effI (its i) (sD its s0 n p) with nx := s0.nx + n } : S).hp = lookH (sD its s0 n (add p i)).hp from funext hl'.hp]
 have hadd : ∀ j, add p i j = false → p j = false ∧ j ≠ i := by
  intro j hj
  simp only [add, Bool.or_eq_false_iff] at hj
  exact ⟨hj.1, fun e => by subst e; simp at hj⟩
 -- the operation has been done: the state that follows
 have fin : ∀ {c : Value} {w' : World}, (its i).dst = o.dst → Post ι O w0 (lookH (sD its s0 n p).hp) w (s0.nx + i) (its i).v (its i).wr w' c → K (a.put o.dst c) w' := by
  rintro c w' hdst ⟨ι', q1, q2, q3, q4⟩
  have e : lookH ({ effI (its i) (sD its s0 n p) with nx := s0.nx + n } : S).hp = updH (its i).wr (lookH (sD its s0 n p).hp) := by
   show lookH ((its i).wr ++ (sD its s0 n p).hp) = _
   exact lookH_append _ _
  have hx : XS ι' O { effI (its i) (sD its s0 n p) with nx := s0.nx + n } = Ex1 ι' (updH (its i).wr (lookH (sD its s0 n p).hp)) O := by unfold XS; rw [e]
  have he : Ext ι ι' (XS ι O (sD its s0 n p)) (XS ι' O { effI (its i) (sD its s0 n p) with nx := s0.nx + n }) w w' := by rw [hx]; exact q2
  have hsim : Sim ι' O w0 { effI (its i) (sD its s0 n p) with nx := s0.nx + n } (a.put o.dst c) w' := by
   refine hs.sim.put' (d := o.dst) (v := (its i).v) hdok ⟨by rw [e]; exact q1, fun id hid => ?_⟩ he (by rw [hx]; exact q3) (by show put (sD its s0 n p).sl (its i).dst (its i).v = _; rw [hdst]) rfl
   have hid : s0.nx + n ≤ id := hid
   rw [q4 id (by omega)]
   exact hs.sim.fresh id hid
  refine hK ι' _ _ ⟨hsim.eqv hl' rfl, fun j hj hpj => ?_⟩ (by rw [← hxs]; exact he)
  obtain ⟨h1, h2⟩ := hadd j hpj
  rw [q4 _ (by omega)]
  exact hs.fresh j hj h1
 unfold wpOp
 rw [hopt]
 show if Region.wanted o (yielded all.toArray a.tmps) then _ else _
 rcases hM'.run with ⟨g, vs, r, a1, a2, a3, a4, a5, a6, a7⟩ | ⟨⟨j, want, t, g1, g2, g3⟩, b1, b2, b3⟩
 ·have hw : Region.wanted o (yielded all.toArray a.tmps) = true := by
   rcases g with g | ⟨j, want, t, g1, g2, g3⟩
   ·simp [Region.wanted, g]
   ·simp [Region.wanted, g1, (hs.sim.yields g2).1 _ g3]
  rw [if_pos hw]
  refine .inl (act_ok hE.con hs.sim.mem (hs.fresh i hi hp) (hs.sim.evOs _ a1) a3 a4 fun c w' hpost => ?_)
  rw [← a5, ← a6] at hpost
  exact fin hM'.dst hpost
 ·have hw : Region.wanted o (yielded all.toArray a.tmps) = false := by
   rcases g3 with g3 | g3
   ·simp [Region.wanted, g1, (hs.sim.yields g2).2 g3]
   ·have := (hs.sim.yields g2).1 _ g3
    simp only [Region.wanted, g1, this]
    cases want <;> rfl
  rw [hw]
  refine fin hM'.dst ⟨ι, ?_, ?_, ?_, fun _ _ => rfl⟩
  ·rw [b2]; exact hs.sim.mem
  ·rw [b2]; exact Ext.refl
  ·rw [b1]; exact .void
def cnt (p : Nat → Bool) : Nat → Nat
 | 0 => 0
 | m + 1 => cnt p m + (bif p m then 0 else 1)
theorem cnt_add {i : Nat} (hp : p i = false) : ∀ m, cnt (add p i) m + (if i < m then 1 else 0) = cnt p m
 | 0 => rfl
 | m + 1 => by
  have ih := cnt_add hp m
  simp only [cnt]
  by_cases h : m = i
  ·subst h
   have h1 : add p m m = true := by simp [add]
   rw [h1, hp]
   rw [if_neg (by omega)] at ih
   rw [if_pos (by omega)]
   simp only [cond_true, cond_false]
   omega
  ·have h1 : add p i m = p m := by
    have : Nat.beq m i = false := Bool.eq_false_iff.2 (fun hb => h (Nat.eq_of_beq_eq_true hb))
    simp only [add, this, Bool.or_false]
   rw [h1]
   by_cases h2 : i < m
   ·rw [if_pos h2] at ih; rw [if_pos (by omega)]; omega
   ·rw [if_neg h2] at ih; rw [if_neg (by omega)]; omega
theorem cnt_zero : ∀ m, cnt p m = 0 → ∀ j, j < m → p j = true
 | 0, _, j, h => by omega
 | m + 1, h, j, hj => by
  simp only [cnt] at h
  have h1 : cnt p m = 0 := by omega
  have h2 : (bif p m then 0 else 1) = 0 := by omega
  rcases Nat.lt_or_ge j m with h3 | h3
  ·exact cnt_zero m h1 j h3
  ·obtain rfl : j = m := by omega
   cases hq : p j with
   | true => rfl
   | false => rw [hq] at h2; cases h2
theorem st_same {q : Nat → Bool} : ∀ m, (∀ j, j < m → p j = q j) → stN its s0 p m = stN its s0 q m
 | 0, _ => rfl
 | m + 1, h => by simp only [stN]; rw [h m (by omega), st_same m (fun j hj => h j (by omega))]
structure Drawn (E : Env) (all : List Oper) (its : Nat → It) (s0 : S) : Prop where
 makes : ∀ i o, all[i]? = some o → Makes E all (s0.nx + i) o (stN its s0 (fun _ => true) i) (its i)
 pair : ∀ j, j < all.length → ∀ i, i < j → (∃ l, (ancs all [])[j]? = some l ∧ i ∈ l) ∨ Ind (its i) (its j)
 lt : ∀ j o, all[j]? = some o → ∀ i ∈ dirs o, i < j
theorem Drawn.ready (hD : Drawn E all its s0) (hc : Closed all p) {i : Nat} {o : Oper} (ho : all[i]? = some o) (hp : p i = false) (hd : ∀ j ∈ dirs o, p j = true) :
  Makes E all (s0.nx + i) o (stN its s0 p all.length) (its i) ∧ Eqv (effI (its i) (stN its s0 p all.length)) (stN its s0 (add p i) all.length) := by
 have hi : i < all.length := (List.getElem?_eq_some_iff.1 ho).1
 have anc := ancs_spec all p hc all [] 0 rfl rfl (fun j l h => by simp at h)
 have early : ∀ j, j < i → p j = false → Ind (its j) (its i) := by
  intro j hj hpj
  rcases hD.pair i hi j hj with ⟨l, h1, h2⟩ | h
  ·have := anc i l h1 o ho hd j h2
   rw [hpj] at this; cases this
  ·exact h
 have late : ∀ j, i < j → j < all.length → p j = true → Ind (its i) (its j) := by
  intro j hj hjn hpj
  rcases hD.pair j hjn i hj with ⟨l, h1, h2⟩ | h
  ·have hoj : all[j]? = some all[j] := List.getElem?_eq_getElem hjn
   have := anc j l h1 _ hoj (hc j _ hpj hoj) i h2
   rw [hp] at this; cases this
  ·exact h
 have agree : ∀ (φ : It → Prop), (∀ j, Ind (its j) (its i) → ¬ φ (its j)) → (∀ j, Ind (its i) (its j) → ¬ φ (its j)) → ∀ j, j < all.length → φ (its j) → Nat.blt j i = p j := by
  intro φ h1 h2 j hj hφ
  rcases Nat.lt_trichotomy j i with h | h | h
  ·have hb : Nat.blt j i = true := Nat.ble_eq_true_of_le h
   rw [hb]
   cases hq : p j with
   | true => rfl
   | false => exact absurd hφ (h1 j (early j h hq))
  ·subst h
   have hb : Nat.blt j j = false := Bool.eq_false_iff.2 (fun hb => by have : j < j := Nat.le_of_ble_eq_true hb; omega)
   rw [hb, hp]
  ·have hb : Nat.blt j i = false := Bool.eq_false_iff.2 (fun hb => by have : j < i := Nat.le_of_ble_eq_true hb; omega)
   rw [hb]
   cases hq : p j with
   | false => rfl
   | true => exact absurd hφ (h2 j (late j h hj hq))
 constructor
 ·have h0 := hD.makes i o ho
  have e : stN its s0 (fun _ => true) i = stN its s0 (fun j => Nat.blt j i) all.length := by rw [st_ahead, show min all.length i = i by omega]
  rw [e] at h0
  refine h0.agree (fun t ht => st_slot _ fun j hj hd => ?_) (fun id hid => st_heap _ fun j hj hd => ?_) (by rw [st_n, st_n])
  ·exact agree (fun it => it.dst = some t) (fun j hI h => hI.ar t h ht) (fun j hI h => hI.br t h ht) j hj hd
  ·exact agree (fun it => id ∈ keysW it.wr) (fun j hI h => hI.at_ id h hid) (fun j hI h => hI.bt id h hid) j hj hd
 ·exact st_late hi hp late
def pL (listed : Array Bool) : Nat → Bool := fun j => listed.getD j false
theorem ready_spec {listed : Array Bool} (hn : listed.size = all.length) {i : Nat} : i ∈ Region.ready .any all.toArray listed ↔ ∃ o, all[i]? = some o ∧ pL listed i = false ∧ ∀ j ∈ dirs o, pL listed j = true := by
 have hdirs : ∀ o : Oper, (o.after.all fun e => !Region.binds .any e || listed.getD e.on false) = true ↔ ∀ j ∈ dirs o, pL listed j = true := by
  intro o
  rw [← Array.all_toList, List.all_eq_true]
  constructor
  ·intro h j hj
   obtain ⟨e, he, rfl⟩ := List.mem_map.1 hj
   obtain ⟨h1, h2⟩ := List.mem_filter.1 he
   have := h e h1
   rw [h2] at this
   simpa [pL] using this
  ·intro h e he
   cases hb : Region.binds .any e with
   | false => rfl
   | true =>
    have := h e.on (List.mem_map.2 ⟨e, List.mem_filter.2 ⟨he, hb⟩, rfl⟩)
    simpa [pL] using this
 unfold Region.ready
 rw [List.mem_filter, List.mem_range]
 constructor
 ·rintro ⟨h1, h2⟩
  have hlt : i < all.length := by simpa using h1
  simp only [Bool.and_eq_true, Bool.not_eq_true'] at h2
  refine ⟨all[i], List.getElem?_eq_getElem hlt, ?_, ?_⟩
  ·have := h2.1
   simp only [Array.getD_eq_getD_getElem?, pL] at this ⊢
   rw [Array.getElem?_eq_getElem (by omega)] at this ⊢
   exact this
  ·have := h2.2
   rw [show all.toArray[i]? = some all[i] by simp [List.getElem?_eq_getElem hlt]] at this
   exact (hdirs _).1 this
 ·rintro ⟨o, h1, h2, h3⟩
  have hlt : i < all.length := (List.getElem?_eq_some_iff.1 h1).1
  refine ⟨by simpa using hlt, ?_⟩
  simp only [Bool.and_eq_true, Bool.not_eq_true']
  constructor
  ·simp only [Array.getD_eq_getD_getElem?, pL] at h2 ⊢
   rw [Array.getElem?_eq_getElem (by omega)] at h2 ⊢
   exact h2
  ·rw [show all.toArray[i]? = some o by simpa using h1]
   exact (hdirs o).2 h3
theorem drawn_ok (hE : EnvOk E) (hD : Drawn E all its s0) {Q : Exit → Act → World → Prop} {ι0 : Nat → Option Cn} {X0 : Nat → Prop} {w1 : World} (hQ : ∀ ι' a' w', SimD ι' O w0 its s0 all.length (fun _ => true) a' w' → Ext ι0 ι' X0 (XS ι' O (sD its s0 all.length (fun _ => true))) w1 w' → Q .normal a' w') :
  ∀ (fuel : Nat) (listed : Array Bool) (ι : Nat → Option Cn) (a : Act) (w : World), listed.size = all.length → cnt (pL listed) all.length ≤ fuel → Closed all (pL listed) → SimD ι O w0 its s0 all.length (pL listed) a w →
   Ext ι0 ι X0 (XS ι O (sD its s0 all.length (pL listed))) w1 w → wpAny E.P .any all.toArray Q fuel listed a w := by
 have done : ∀ (listed : Array Bool) (ι : Nat → Option Cn) (a : Act) (w : World), (∀ j, j < all.length → pL listed j = true) → SimD ι O w0 its s0 all.length (pL listed) a w →
   Ext ι0 ι X0 (XS ι O (sD its s0 all.length (pL listed))) w1 w → Q .normal a w := by
  intro listed ι a w hall hs he
  have e : sD its s0 all.length (pL listed) = sD its s0 all.length (fun _ => true) := by unfold sD; rw [st_same _ (q := fun _ => true) fun j hj => hall j hj]
  rw [e] at he
  refine hQ ι a w ⟨by rw [← e]; exact hs.sim, fun j _ h => by cases h⟩ he
 intro fuel
 induction fuel with
 | zero =>
  intro listed ι a w hn hc _ hs he
  have hall := cnt_zero (p := pL listed) _ (Nat.le_zero.1 hc)
  refine ⟨?_, done listed ι a w hall hs he⟩
  apply List.eq_nil_iff_forall_not_mem.2
  intro i hi
  obtain ⟨o, h1, h2, _⟩ := (ready_spec hn).1 hi
  rw [hall i (List.getElem?_eq_some_iff.1 h1).1] at h2
  cases h2
 | succ fuel ih =>
  intro listed ι a w hn hc hcl hs he
  refine ⟨fun hr => ?_, fun i hi => ?_⟩
  ·refine done listed ι a w (fun j => ?_) hs he
   induction j using Nat.strongRecOn with
   | _ j ihj =>
    intro hj
    cases hq : pL listed j with
    | true => rfl
    | false =>
     have hoj : all[j]? = some all[j] := List.getElem?_eq_getElem hj
     have : j ∈ Region.ready .any all.toArray listed := (ready_spec hn).2 ⟨_, hoj, hq, fun i hi => ihj i (hD.lt j _ hoj i hi) (by have := hD.lt j _ hoj i hi; omega)⟩
     rw [hr] at this
     cases this
  ·obtain ⟨o, h1, h2, h3⟩ := (ready_spec hn).1 hi
   have hil : i < all.length := (List.getElem?_eq_some_iff.1 h1).1
   obtain ⟨m1, m2⟩ := hD.ready hcl h1 h2 h3
   have hset : pL (listed.setIfInBounds i true) = add (pL listed) i := by
    funext j
    simp only [pL, add, Array.getD_eq_getD_getElem?, Array.getElem?_setIfInBounds]
    by_cases hj : i = j
    ·subst hj
     rw [if_pos rfl, if_pos (by omega)]
     simp
    ·rw [if_neg hj]
     have : Nat.beq j i = false := Bool.eq_false_iff.2 (fun hb => hj (Nat.eq_of_beq_eq_true hb).symm)
     rw [this, Bool.or_false]
   refine opD_ok hE h1 hil h2 m1 m2 hs fun ι' a' w' q1 q2 => ?_
   refine ih _ ι' a' w' (by simpa using hn) ?_ ?_ (by rw [hset]; exact q1) (by rw [hset]; exact he.trans q2)
   ·have := cnt_add h2 all.length
    rw [if_pos hil] at this
    rw [hset]; omega
   ·rw [hset]
    intro j o' hj ho' k hk
    simp only [add, Bool.or_eq_true] at hj ⊢
    rcases hj with hj | hj
    ·exact .inl (hcl j o' hj ho' k hk)
    ·have := Nat.eq_of_beq_eq_true hj
     subst this
     rw [h1] at ho'; injection ho' with ho'; subst ho'
     exact .inl (h3 k hk)
structure DrawnR (E : Env) (all : List Oper) (its : Nat → It) (s0 : S) (lo hi : Nat) : Prop where
 makes : ∀ i o, lo ≤ i → i < hi → all[i]? = some o → Makes E all (s0.nx + i) o (stN its s0 (fun _ => true) i) (its i)
 pair : ∀ j, lo ≤ j → j < hi → ∀ i, lo ≤ i → i < j → (∃ l, (ancs all [])[j]? = some l ∧ i ∈ l) ∨ Ind (its i) (its j)
 lt : ∀ j o, all[j]? = some o → ∀ i ∈ dirs o, i < j
theorem DrawnR.ready {lo hi : Nat} (hD : DrawnR E all its s0 lo hi) (hc : Closed all p) (hp1 : ∀ j, j < lo → p j = true) (hp2 : ∀ j, p j = true → j < hi) {i : Nat} {o : Oper} (ho : all[i]? = some o) (hhi : i < hi) (hp : p i = false) (hd : ∀ j ∈ dirs o, p j = true) :
  Makes E all (s0.nx + i) o (stN its s0 p all.length) (its i) ∧ Eqv (effI (its i) (stN its s0 p all.length)) (stN its s0 (add p i) all.length) := by
 have hi' : i < all.length := (List.getElem?_eq_some_iff.1 ho).1
 have hlo : lo ≤ i := by
  rcases Nat.lt_or_ge i lo with h | h
  ·rw [hp1 i h] at hp; cases hp
  ·exact h
 have anc := ancs_spec all p hc all [] 0 rfl rfl (fun j l h => by simp at h)
 have early : ∀ j, j < i → p j = false → Ind (its j) (its i) := by
  intro j hj hpj
  have hjlo : lo ≤ j := by
   rcases Nat.lt_or_ge j lo with h | h
   ·rw [hp1 j h] at hpj; cases hpj
   ·exact h
  rcases hD.pair i hlo hhi j hjlo hj with ⟨l, h1, h2⟩ | h
  ·have := anc i l h1 o ho hd j h2
   rw [hpj] at this; cases this
  ·exact h
 have late : ∀ j, i < j → j < all.length → p j = true → Ind (its i) (its j) := by
  intro j hj hjn hpj
  rcases hD.pair j (by omega) (hp2 j hpj) i hlo hj with ⟨l, h1, h2⟩ | h
  ·have hoj : all[j]? = some all[j] := List.getElem?_eq_getElem hjn
   have := anc j l h1 _ hoj (hc j _ hpj hoj) i h2
   rw [hp] at this; cases this
  ·exact h
 have agree : ∀ (φ : It → Prop), (∀ j, Ind (its j) (its i) → ¬ φ (its j)) → (∀ j, Ind (its i) (its j) → ¬ φ (its j)) → ∀ j, j < all.length → φ (its j) → Nat.blt j i = p j := by
  intro φ h1 h2 j hj hφ
  rcases Nat.lt_trichotomy j i with h | h | h
  ·have hb : Nat.blt j i = true := Nat.ble_eq_true_of_le h
   rw [hb]
   cases hq : p j with
   | true => rfl
   | false => exact absurd hφ (h1 j (early j h hq))
  ·subst h
   have hb : Nat.blt j j = false := Bool.eq_false_iff.2 (fun hb => by have : j < j := Nat.le_of_ble_eq_true hb; omega)
   rw [hb, hp]
  ·have hb : Nat.blt j i = false := Bool.eq_false_iff.2 (fun hb => by have : j < i := Nat.le_of_ble_eq_true hb; omega)
   rw [hb]
   cases hq : p j with
   | false => rfl
   | true => exact absurd hφ (h2 j (late j h hj hq))
 constructor
 ·have h0 := hD.makes i o hlo hhi ho
  have e : stN its s0 (fun _ => true) i = stN its s0 (fun j => Nat.blt j i) all.length := by rw [st_ahead, show min all.length i = i by omega]
  rw [e] at h0
  refine h0.agree (fun t ht => st_slot _ fun j hj hd => ?_) (fun id hid => st_heap _ fun j hj hd => ?_) (by rw [st_n, st_n])
  ·exact agree (fun it => it.dst = some t) (fun j hI h => hI.ar t h ht) (fun j hI h => hI.br t h ht) j hj hd
  ·exact agree (fun it => id ∈ keysW it.wr) (fun j hI h => hI.at_ id h hid) (fun j hI h => hI.bt id h hid) j hj hd
 ·exact st_late hi' hp late
theorem pL_set {listed : Array Bool} {i : Nat} (hi : i < listed.size) : pL (listed.setIfInBounds i true) = add (pL listed) i := by
 funext j
 simp only [pL, add, Array.getD_eq_getD_getElem?, Array.getElem?_setIfInBounds]
 by_cases hj : i = j
 ·subst hj
  rw [if_pos rfl, if_pos hi]
  simp
 ·rw [if_neg hj]
  have : Nat.beq j i = false := Bool.eq_false_iff.2 (fun hb => hj (Nat.eq_of_beq_eq_true hb).symm)
  rw [this, Bool.or_false]
theorem drawnR_ok (hE : EnvOk E) {lo hi : Nat} (hD : DrawnR E all its s0 lo hi) (hhi : hi ≤ all.length)
  (hgate : ∀ p : Nat → Bool, Closed all p → (∀ j, p j = true → j < hi) → ∀ i o, all[i]? = some o → (∀ j ∈ dirs o, p j = true) → i < hi ∨ ∀ j, j < hi → p j = true)
  {Q : Exit → Act → World → Prop} {ι0 : Nat → Option Cn} {X0 : Nat → Prop} {w1 : World}
  (hQ : ∀ (fuel : Nat) (listed : Array Bool) (ι' : Nat → Option Cn) (a' : Act) (w' : World), listed.size = all.length → cnt (pL listed) all.length ≤ fuel → Closed all (pL listed) → (∀ j, j < hi → pL listed j = true) → (∀ j, pL listed j = true → j < hi) →
   SimD ι' O w0 its s0 all.length (pL listed) a' w' → Ext ι0 ι' X0 (XS ι' O (sD its s0 all.length (pL listed))) w1 w' → wpAny E.P .any all.toArray Q fuel listed a' w') :
  ∀ (fuel : Nat) (listed : Array Bool) (ι : Nat → Option Cn) (a : Act) (w : World), listed.size = all.length → cnt (pL listed) all.length ≤ fuel → Closed all (pL listed) → (∀ j, j < lo → pL listed j = true) → (∀ j, pL listed j = true → j < hi) →
   SimD ι O w0 its s0 all.length (pL listed) a w → Ext ι0 ι X0 (XS ι O (sD its s0 all.length (pL listed))) w1 w → wpAny E.P .any all.toArray Q fuel listed a w := by
 intro fuel
 induction fuel with
 | zero =>
  intro listed ι a w hn hc hcl h1 h2 hs he
  have hall := cnt_zero (p := pL listed) _ (Nat.le_zero.1 hc)
  exact hQ 0 listed ι a w hn hc hcl (fun j hj => hall j (by omega)) h2 hs he
 | succ fuel ih =>
  intro listed ι a w hn hc hcl h1 h2 hs he
  by_cases hall : ∀ j, j < hi → pL listed j = true
  ·exact hQ _ listed ι a w hn hc hcl hall h2 hs he
  ·refine ⟨fun hr => absurd (fun j hj => ?_) hall, fun i hi' => ?_⟩
   ·induction j using Nat.strongRecOn with
    | _ j ihj =>
     cases hq : pL listed j with
     | true => rfl
     | false =>
      have hoj : all[j]? = some all[j] := List.getElem?_eq_getElem (by omega)
      have : j ∈ Region.ready .any all.toArray listed := (ready_spec hn).2 ⟨_, hoj, hq, fun i hi => ihj i (hD.lt j _ hoj i hi) (by have := hD.lt j _ hoj i hi; omega)⟩
      rw [hr] at this
      cases this
   ·obtain ⟨o, k1, k2, k3⟩ := (ready_spec hn).1 hi'
    have hil : i < all.length := (List.getElem?_eq_some_iff.1 k1).1
    have hih : i < hi := (hgate _ hcl h2 i o k1 k3).resolve_right hall
    obtain ⟨m1, m2⟩ := hD.ready hcl h1 h2 k1 hih k2 k3
    have hset := pL_set (listed := listed) (i := i) (by omega)
    refine opD_ok hE k1 hil k2 m1 m2 hs fun ι' a' w' q1 q2 => ?_
    refine ih _ ι' a' w' (by simpa using hn) ?_ ?_ ?_ ?_ (by rw [hset]; exact q1) (by rw [hset]; exact he.trans q2)
    ·have := cnt_add k2 all.length
     rw [if_pos hil] at this
     rw [hset]; omega
    ·rw [hset]
     intro j o' hj ho' k hk
     simp only [add, Bool.or_eq_true] at hj ⊢
     rcases hj with hj | hj
     ·exact .inl (hcl j o' hj ho' k hk)
     ·have := Nat.eq_of_beq_eq_true hj
      subst this
      rw [k1] at ho'; injection ho' with ho'; subst ho'
      exact .inl (k3 k hk)
    ·rw [hset]
     intro j hj
     simp only [add, h1 j hj, Bool.true_or]
    ·rw [hset]
     intro j hj
     simp only [add, Bool.or_eq_true] at hj
     rcases hj with hj | hj
     ·exact h2 j hj
     ·have := Nat.eq_of_beq_eq_true hj
      omega
end
end Go.Am
namespace Go.Am
open Go Go.RowKit Go.Bas
section
variable {R : Type} {E : Env} {inl : AF → List V → S → (V → S → Option R) → Option R} {kp : List PanicEntry → S → Option R}
variable {ι : Nat → Option Cn} {O : Nat → Prop} {w0 : Zone} {w : World} {s : S} {a : Act}
theorem Nxt.refl (h : Sim ι O w0 s a w) : Nxt ι O w0 s w s a w := ⟨ι, h, Ext.refl⟩
theorem runOps_ok (hE : EnvOk E) (hI : InlOk E inl) {all : List Oper} {k : S → Option R} {r : R} (hk : Strict k) {Q : Exit → Act → World → Prop} : ∀ (ops : List Oper) {ι : Nat → Option Cn} {s : S} {a : Act} {w : World}, runOps E inl kp all ops s k = some r → Sim ι O w0 s a w →
  (∀ s' a' w', k s' = some r → s'.ob = true → Nxt ι O w0 s w s' a' w' → Q .normal a' w') →
  (∀ ch s' a' w', kp ch s' = some r → s'.ob = true → Nxt ι O w0 s w s' a' w' → Q (.panic ch) a' w') → wpList E.P all.toArray Q ops a w := by
 intro ops
 induction ops with
 | nil =>
  intro ι s a w hx hs hQ hP
  have hob : s.ob = true := by
   cases hq : s.ob with
   | true => rfl
   | false => rw [runOps_strict [] hk s hq] at hx; cases hx
  exact hQ s a w hx hob (Nxt.refl hs)
 | cons o ops ih =>
  intro ι s a w hx hs hQ hP
  have hob : s.ob = true := by
   cases hq : s.ob with
   | true => rfl
   | false => rw [runOps_strict (o :: ops) hk s hq] at hx; cases hx
  have hkk : Strict fun s => runOps E inl kp all ops s k := fun s hs => runOps_strict ops hk s hs
  have go : ∀ {s1 : S}, Sim ι O w0 s1 a w → s1.ob = true → (∀ s' a' w', Nxt ι O w0 s1 w s' a' w' → Nxt ι O w0 s w s' a' w') → exec E inl kp o s1 (fun s => runOps E inl kp all ops s k) = some r →
    ∀ K : Act → World → Prop, (∀ a w, wpList E.P all.toArray Q ops a w → K a w) → o.wp E.P a w K Q := by
   intro s1 h1 ho1 hn he K hK
   refine exec_ok hE hI hkk he h1 ho1 (fun s' a' w' hr hob' hnx => hK _ _ ?_) fun ch s' a' w' hr hob' hnx => hP ch s' a' w' hr hob' (hn _ _ _ hnx)
   obtain ⟨ι', q1, q2⟩ := hn _ _ _ hnx
   exact ih hr q1 (fun s2 a2 w2 hk2 ho2 hn2 => hQ s2 a2 w2 hk2 ho2 (by obtain ⟨ι2, z1, z2⟩ := hn2; exact ⟨ι2, z1, q2.trans z2⟩)) fun ch s2 a2 w2 hk2 ho2 hn2 => hP ch s2 a2 w2 hk2 ho2 (by obtain ⟨ι2, z1, z2⟩ := hn2; exact ⟨ι2, z1, q2.trans z2⟩)
  have sk : ∀ {s1 : S}, Sim ι O w0 s1 a w → (∀ s' a' w', Nxt ι O w0 s1 w s' a' w' → Nxt ι O w0 s w s' a' w') → ∀ {n}, n = s1.n → (bif dstOk n o.dst then runOps E inl kp all ops (skipO o s1) k else none) = some r →
    ∀ K : Act → World → Prop, (∀ a w, wpList E.P all.toArray Q ops a w → K a w) → K (a.put o.dst Go.undef) w := by
   intro s1 h1 hn n hnn he K hK
   subst hnn
   obtain ⟨hd, he⟩ := ofBif he
   obtain ⟨ι', q1, q2⟩ := hn _ _ _ (h1.skip hd)
   exact hK _ _ (ih he q1 (fun s2 a2 w2 hk2 ho2 hn2 => hQ s2 a2 w2 hk2 ho2 (by obtain ⟨ι2, z1, z2⟩ := hn2; exact ⟨ι2, z1, q2.trans z2⟩)) fun ch s2 a2 w2 hk2 ho2 hn2 => hP ch s2 a2 w2 hk2 ho2 (by obtain ⟨ι2, z1, z2⟩ := hn2; exact ⟨ι2, z1, q2.trans z2⟩))
  refine wpList_step fun K hK => ?_
  unfold runOps at hx
  split at hx
  ·rename_i hg
   have hw : Region.wanted o (yielded all.toArray a.tmps) = true := by simp [Region.wanted, hg]
   rw [if_pos hw]
   exact go hs hob (fun _ _ _ h => h) hx K hK
  ·rename_i j want hg
   split at hx
   ·cases hx
   ·rename_i t ht
    obtain ⟨y1, y2⟩ := hs.yields (all := all) ht
    split at hx
    ·rename_i b hb
     have hy := y1 b hb
     cases b
     ·have hs1 := hs.setS (c := false) hb rfl
      cases want
      ·have hw : Region.wanted o (yielded all.toArray a.tmps) = true := by simp [Region.wanted, hg, hy]
       rw [if_pos hw]
       exact go hs1 hob (fun _ _ _ h => h) hx K hK
      ·have hw : Region.wanted o (yielded all.toArray a.tmps) = false := by simp [Region.wanted, hg, hy]
       rw [hw]
       exact sk hs1 (fun _ _ _ h => h) rfl hx K hK
     ·have hs1 := hs.setS (c := true) hb rfl
      cases want
      ·have hw : Region.wanted o (yielded all.toArray a.tmps) = false := by simp [Region.wanted, hg, hy]
       rw [hw]
       exact sk hs1 (fun _ _ _ h => h) rfl hx K hK
      ·have hw : Region.wanted o (yielded all.toArray a.tmps) = true := by simp [Region.wanted, hg, hy]
       rw [if_pos hw]
       exact go hs1 hob (fun _ _ _ h => h) hx K hK
    ·rename_i hb
     have hy := y2 hb
     have hw : Region.wanted o (yielded all.toArray a.tmps) = false := by simp [Region.wanted, hg, hy]
     rw [hw]
     exact sk hs (fun _ _ _ h => h) rfl hx K hK
    ·cases hx
theorem st_none {its : Nat → It} : ∀ n, stN its s (fun _ => false) n = s
 | 0 => rfl
 | n + 1 => st_none n
theorem drawOk_spec {all : List Oper} {l : List It} {s : S} (h : drawOk all l = true) (hm : ∀ j o, all[j]? = some o → Makes E all (s.nx + j) o (stN (itf l) s (fun _ => true) j) (itf l j)) : Drawn E all (itf l) s := by
 obtain ⟨h1, h2, h3⟩ := chkD_spec all l 0 [] [] [] h rfl rfl rfl (fun i hi => absurd hi (by omega))
 refine ⟨hm, fun j hj i hi => ?_, fun j o ho i hi => by have := h2 j o ho i hi; omega⟩
 have g : ∀ m, m < all.length → l[m]? = some (itf l m) := by
  intro m hm
  rw [itf, List.getD_eq_getElem?_getD, List.getElem?_eq_getElem (by omega)]
  rfl
 have := h3 j _ (g j hj) i _ (by simpa using g i (by omega)) (by omega)
 rw [Nat.zero_add] at this
 exact this.imp id indep_spec
theorem runDr_ok (hE : EnvOk E) {id : Nat} {ops : List Oper} {k : Ex → S → Option R} {r : R} (hx : runDr E ops ops s (fun s its => bif s.ob && drawOk ops its then k .normal { s with ob := true } else none) = some r) (hs : Sim ι O w0 s a w) :
  (Code.region id ops.toArray true).wp E.P (fun e a' w' => ∃ e' s', e = exOf e' ∧ k e' s' = some r ∧ s'.ob = true ∧ Nxt ι O w0 s w s' a' w') a w := by
 obtain ⟨l, sF, h1, h2, h3, h4, h5, h6⟩ := runDr_spec ops s _ r hx
 obtain ⟨hb, hk⟩ := ofBif h1
 simp only [Bool.and_eq_true] at hb
 have hD := drawOk_spec hb.2 (h6 hb.1)
 have hbel : Below w.heap.size w w.drew := (Below.refl _ _).drew
 obtain ⟨p1, p2⟩ := hs.mem.pass hbel
 have hst : sD (itf l) s ops.length (fun _ => false) = { s with nx := s.nx + ops.length, ob := true } := by unfold sD; rw [st_none]
 have hsim : Sim ι O w0 (sD (itf l) s ops.length (fun _ => false)) a w.drew := by
  rw [hst]
  exact ⟨⟨p1, fun id hid => hs.fresh id (by have : s.nx + ops.length ≤ id := hid; omega)⟩, hs.size, fun t v hv => ⟨(hs.slots t v hv).1, (hs.slots t v hv).2.ext p2⟩, hs.defers⟩
 have hpl : pL (Array.replicate ops.length false) = fun _ => false := by
  funext j
  simp only [pL, Array.getD_eq_getD_getElem?, Array.getElem?_replicate]
  split <;> rfl
 have hsz : ops.toArray.size = ops.length := by simp
 refine wp_region_any hE.mixed ?_
 rw [hsz]
 refine drawn_ok hE hD (ι0 := ι) (X0 := XS ι O s) (w1 := w) (O := O) (w0 := w0) ?_ ops.length _ ι a w.drew (by simp) ?_ ?_ (by rw [hpl]; exact ⟨hsim, fun j hj _ => hs.fresh _ (by omega)⟩) (by rw [hpl, hst]; exact p2)
 ·intro ι' a' w' q1 q2
  have heq : Eqv (sD (itf l) s ops.length (fun _ => true)) { sF with ob := true } := Eqv.trans (s2 := stN (itf l) s (fun _ => true) ops.length) ⟨fun _ => rfl, fun _ => rfl, rfl⟩ (Eqv.trans (s2 := sF) h3.symm ⟨fun _ => rfl, fun _ => rfl, rfl⟩)
  have hxs : XS ι' O (sD (itf l) s ops.length (fun _ => true)) = XS ι' O { sF with ob := true } := by unfold XS; rw [show lookH _ = lookH _ from funext heq.hp]
  refine ⟨.normal, { sF with ob := true }, rfl, hk, rfl, ι', q1.sim.eqv heq h4, ?_⟩
  rw [← hxs]
  exact q2
 ·rw [hpl]
  have : ∀ (n : Nat) (p : Nat → Bool), cnt p n ≤ n := by
   intro n p
   induction n with
   | zero => exact Nat.le_refl _
   | succ n ih =>
    simp only [cnt]
    cases p n <;> simp <;> omega
  exact this _ _
 ·rw [hpl]
  intro j o h; cases h
theorem eff_triv (s : S) : Eqv (effI trivIt s) s := ⟨fun _ => rfl, fun _ => rfl, rfl⟩
def segf (l : List It) (lo : Nat) : Nat → It := fun i => bif Nat.blt i lo then trivIt else itf l (i - lo)
theorem segf_lo {l : List It} {lo i : Nat} (h : i < lo) : segf l lo i = trivIt := by
 have hb : Nat.blt i lo = true := Nat.ble_eq_true_of_le h
 unfold segf; rw [hb]; rfl
theorem segf_hi {l : List It} {lo j : Nat} : segf l lo (lo + j) = itf l j := by
 have hb : Nat.blt (lo + j) lo = false := Bool.eq_false_iff.2 (fun hb => by have : lo + j < lo := Nat.le_of_ble_eq_true hb; omega)
 unfold segf; rw [hb, Nat.add_sub_cancel_left]; rfl
theorem segf_pre {l : List It} {lo : Nat} : ∀ m, m ≤ lo → Eqv (stN (segf l lo) s (fun _ => true) m) s
 | 0, _ => Eqv.refl _
 | m + 1, h => by
  show Eqv (effI (segf l lo m) (stN (segf l lo) s (fun _ => true) m)) s
  rw [segf_lo (by omega)]
  exact (eff_triv _).trans (segf_pre m (by omega))
theorem segf_st {l : List It} {lo : Nat} {s' : S} (he : Eqv s' s) : ∀ m, Eqv (stN (segf l lo) s (fun _ => true) (lo + m)) (stN (itf l) s' (fun _ => true) m)
 | 0 => (segf_pre lo (Nat.le_refl _)).trans he.symm
 | m + 1 => by
  show Eqv (effI (segf l lo (lo + m)) (stN (segf l lo) s (fun _ => true) (lo + m))) (effI (itf l m) (stN (itf l) s' (fun _ => true) m))
  rw [segf_hi]
  exact (segf_st he m).eff _
theorem rngAll_spec {p : Nat → Bool} : ∀ {n : Nat}, rngAll p n = true → ∀ j, j < n → p j = true
 | n + 1, h, j, hj => by
  simp only [rngAll, Bool.and_eq_true] at h
  rcases Nat.lt_or_ge j n with h1 | h1
  ·exact rngAll_spec h.2 j h1
  ·obtain rfl : j = n := by omega
   exact h.1
theorem isIn_mem {x : Nat} : ∀ {l : List Nat}, Am.isIn x l = true → x ∈ l
 | y :: l, h => by
  simp only [Am.isIn, Bool.or_eq_true] at h
  rcases h with h | h
  ·have := Nat.eq_of_beq_eq_true h
   subst this
   simp
  ·exact List.mem_cons_of_mem _ (isIn_mem h)
def BarAt (all : List Oper) (c : Nat) : Prop := c < all.length ∧ ∀ p : Nat → Bool, Closed all p → ∀ i o, all[i]? = some o → (∀ j ∈ dirs o, p j = true) → (i = c → ∀ j, j < c → p j = true) ∧ (c < i → p c = true)
theorem barsOk_spec {all : List Oper} {bs : List Nat} (h : barsOk all bs = true) : (∀ j o, all[j]? = some o → ∀ i ∈ dirs o, i < j) ∧ ∀ c ∈ bs, BarAt all c := by
 simp only [barsOk, Bool.and_eq_true, List.all_eq_true] at h
 obtain ⟨h1, h2⟩ := h
 refine ⟨fun j o ho i hi => ?_, fun c hc => ?_⟩
 ·have hj : j < all.length := (List.getElem?_eq_some_iff.1 ho).1
  have := rngAll_spec h1 j hj
  rw [nthL_eq, ho] at this
  exact Nat.le_of_ble_eq_true (List.all_eq_true.1 this i hi)
 ·obtain ⟨h3, h4⟩ := h2 c hc
  have hcl : c < all.length := Nat.le_of_ble_eq_true h3
  refine ⟨hcl, fun p hp i o ho hd => ?_⟩
  have anc := ancs_spec all p hp all [] 0 rfl rfl (fun j l h => by simp at h)
  have hi : i < all.length := (List.getElem?_eq_some_iff.1 ho).1
  constructor
  ·intro e j hj
   subst e
   have := rngAll_spec h4 j (by omega)
   have hb : Nat.blt j i = true := Nat.ble_eq_true_of_le hj
   rw [hb] at this
   have hm := isIn_mem this
   cases hq : nthL (ancs all []) i with
   | none => simp [hq] at hm
   | some l =>
    rw [hq] at hm
    exact anc i l (by rw [← nthL_eq]; exact hq) o ho hd j hm
  ·intro hlt
   have := rngAll_spec h4 i hi
   have hb : Nat.blt i c = false := Bool.eq_false_iff.2 (fun hb => by have : i < c := Nat.le_of_ble_eq_true hb; omega)
   have hb2 : Nat.blt c i = true := Nat.ble_eq_true_of_le hlt
   rw [hb, hb2] at this
   have hm := isIn_mem this
   cases hq : nthL (ancs all []) i with
   | none => simp [hq] at hm
   | some l =>
    rw [hq] at hm
    exact anc i l (by rw [← nthL_eq]; exact hq) o ho hd c hm
theorem runDr_strict {all ops : List Oper} {k : S → List It → Option R} (hk : ∀ s its, s.ob = false → k s its = none) {s : S} (hs : s.ob = false) : runDr E all ops s k = none := by
 cases hx : runDr E all ops s k with
 | none => rfl
 | some r =>
  obtain ⟨l, sF, h1, _, _, _, h5, _⟩ := runDr_spec ops s _ r hx
  cases hq : sF.ob with
  | false => rw [hk _ _ hq] at h1; cases h1
  | true => rw [h5 hq] at hs; cases hs
theorem runSeg_strict {all : List Oper} {bs : List Nat} {lo : Nat} {k : S → Option R} {s : S} (hs : s.ob = false) : runSeg E inl kp all bs lo s k = none := by
 cases bs with
 | nil => exact runDr_strict (fun s its h => by rw [h]; rfl) hs
 | cons c bs =>
  simp only [runSeg]
  cases Nat.ble lo c with
  | false => rfl
  | true => exact runDr_strict (fun s its h => by rw [h]; rfl) hs
theorem seg_ok (hE : EnvOk E) {all : List Oper} {lo hi : Nat} {K : S → Option R} {r : R} {Q : Exit → Act → World → Prop} (hlt : ∀ j o, all[j]? = some o → ∀ i ∈ dirs o, i < j) (hlo : lo ≤ hi) (hhi : hi ≤ all.length)
  (hgate : ∀ p : Nat → Bool, Closed all p → (∀ j, p j = true → j < hi) → ∀ i o, all[i]? = some o → (∀ j ∈ dirs o, p j = true) → i < hi ∨ ∀ j, j < hi → p j = true)
  (hx : runDr E all ((all.drop lo).take (hi - lo)) { s with nx := s.nx + lo } (fun s its => bif s.ob && chkSeg all lo hi its then K { s with ob := true } else none) = some r) (hs : Sim ι O w0 s a w)
  (hK : ∀ (fuel : Nat) (listed : Array Bool) s' a' w', K s' = some r → s'.ob = true → Nxt ι O w0 s w s' a' w' → listed.size = all.length → cnt (pL listed) all.length ≤ fuel → (∀ j, j < hi → pL listed j = true) → (∀ j, pL listed j = true → j < hi) → wpAny E.P .any all.toArray Q fuel listed a' w')
  (fuel : Nat) (listed : Array Bool) (hn : listed.size = all.length) (hc : cnt (pL listed) all.length ≤ fuel) (h1 : ∀ j, j < lo → pL listed j = true) (h2 : ∀ j, pL listed j = true → j < lo) : wpAny E.P .any all.toArray Q fuel listed a w := by
 obtain ⟨l, sF, e1, e2, e3, e4, e5, e6⟩ := runDr_spec _ _ _ r hx
 obtain ⟨hb, hk⟩ := ofBif e1
 simp only [Bool.and_eq_true] at hb
 have hlen : ((all.drop lo).take (hi - lo)).length = hi - lo := by simp; omega
 have hget : ∀ j, j < hi - lo → ((all.drop lo).take (hi - lo))[j]? = all[lo + j]? := by
  intro j hj
  rw [List.getElem?_take, if_pos hj, List.getElem?_drop]
 have heq : Eqv ({ s with nx := s.nx + lo } : S) s := ⟨fun _ => rfl, fun _ => rfl, rfl⟩
 obtain ⟨c1, c2, c3⟩ := chkD_spec _ l lo (List.replicate lo 0) (List.replicate lo trivIt) ((ancs (all.take lo) [])) hb.2 (by simp) (by simp) (by
  have : ∀ (ops : List Oper) (acc : List (List Nat)), (ancs ops acc).length = acc.length + ops.length := by
   intro ops
   induction ops with
   | nil => intro acc; rfl
   | cons o r ih => intro acc; unfold ancs; rw [ih]; simp; omega
  rw [this]; simp; omega) (by
  intro i hi' k hk
  rw [nthM_eq] at hk
  have : (List.replicate lo 0)[lo - 1 - i]?.getD 0 = 0 := by
   rw [List.getElem?_replicate]; split <;> rfl
  rw [this] at hk
  simp at hk)
 have hanc : ∀ j, j < hi → (ancs ((all.drop lo).take (hi - lo)) (ancs (all.take lo) []))[j]? = (ancs all [])[j]? := by
  have app : ∀ (x y : List Oper) (acc : List (List Nat)), ancs (x ++ y) acc = ancs y (ancs x acc) := by
   intro x
   induction x with
   | nil => intro y acc; rfl
   | cons o r ih => intro y acc; show ancs (r ++ y) _ = ancs y (ancs r _); rw [ih]
  have ln : ∀ (ops : List Oper) (acc : List (List Nat)), (ancs ops acc).length = acc.length + ops.length := by
   intro ops
   induction ops with
   | nil => intro acc; rfl
   | cons o r ih => intro acc; unfold ancs; rw [ih]; simp; omega
  intro j hj
  rw [← app]
  have hsp : all = (all.take lo ++ (all.drop lo).take (hi - lo)) ++ (all.drop lo).drop (hi - lo) := by
   rw [List.append_assoc, List.take_append_drop, List.take_append_drop]
  conv => rhs; rw [hsp, app]
  exact (ancs_pre _ _ (by rw [ln]; simp; omega)).symm
 have hD : DrawnR E all (segf l lo) s lo hi := by
  refine ⟨fun i o k1 k2 k3 => ?_, fun j k1 k2 i k3 k4 => ?_, hlt⟩
  ·obtain ⟨m, rfl⟩ := Nat.exists_eq_add_of_le k1
   have := e6 hb.1 m o (by rw [hget m (by omega)]; exact k3)
   have q : ({ s with nx := s.nx + lo } : S).nx + m = s.nx + (lo + m) := Nat.add_assoc _ _ _
   rw [q] at this
   rw [segf_hi]
   exact this.eqv (segf_st heq m).symm
  ·obtain ⟨m, rfl⟩ := Nat.exists_eq_add_of_le k1
   obtain ⟨m', rfl⟩ := Nat.exists_eq_add_of_le k3
   have g : ∀ m, m < hi - lo → l[m]? = some (itf l m) := by
    intro m hm
    rw [itf, List.getD_eq_getElem?_getD, List.getElem?_eq_getElem (by omega)]
    rfl
   have := c3 m _ (g m (by omega)) (lo + m') (itf l m') (by
    rw [List.getElem?_append_right (by simp)]
    simp only [List.length_reverse, List.length_replicate, Nat.add_sub_cancel_left]
    exact g m' (by omega)) (by omega)
   rw [hanc _ (by omega)] at this
   rw [segf_hi, segf_hi]
   exact this.imp id indep_spec
 have hfin : ∀ (n : Nat) (p : Nat → Bool), (∀ j, j < n → p j = true) → (∀ j, p j = true → j < n) → n ≤ all.length → stN (segf l lo) s p all.length = stN (segf l lo) s (fun _ => true) n := by
  intro n p q1 q2 q3
  have : p = fun j => Nat.blt j n := by
   funext j
   rcases Nat.lt_or_ge j n with h | h
   ·rw [q1 j h]; exact (Nat.ble_eq_true_of_le h).symm
   ·have hbf : Nat.blt j n = false := Bool.eq_false_iff.2 (fun hb => by have : j < n := Nat.le_of_ble_eq_true hb; omega)
    rw [hbf]
    exact Bool.eq_false_iff.2 fun hp => by have := q2 j hp; omega
  rw [this, st_ahead, show min all.length n = n by omega]
 have hcl : Closed all (pL listed) := fun j o hp ho i hi' => h1 i (by have := hlt j o ho i hi'; have := h2 j hp; omega)
 have hst : Eqv (sD (segf l lo) s all.length (pL listed)) s := by
  have : Eqv (stN (segf l lo) s (pL listed) all.length) s := by
   rw [hfin lo _ h1 h2 (by omega)]
   exact segf_pre lo (Nat.le_refl _)
  exact Eqv.trans (s2 := stN (segf l lo) s (pL listed) all.length) ⟨fun _ => rfl, fun _ => rfl, rfl⟩ this
 have hup : Sim ι O w0 { s with nx := s.nx + all.length } a w := ⟨⟨hs.mem, fun id hid => hs.fresh id (by have : s.nx + all.length ≤ id := hid; omega)⟩, hs.size, hs.slots, hs.defers⟩
 have hsim : Sim ι O w0 (sD (segf l lo) s all.length (pL listed)) a w := hup.eqv (Eqv.trans (s2 := s) ⟨fun _ => rfl, fun _ => rfl, rfl⟩ hst.symm) rfl
 have hx0 : XS ι O (sD (segf l lo) s all.length (pL listed)) = XS ι O s := by unfold XS; rw [show lookH _ = lookH _ from funext hst.hp]
 refine drawnR_ok hE hD hhi hgate (O := O) (w0 := w0) (ι0 := ι) (X0 := XS ι O s) (w1 := w) ?_ fuel listed ι a w hn hc hcl h1 (fun j hj => by have := h2 j hj; omega) ⟨hsim, fun j hj _ => hs.fresh _ (by omega)⟩ (by rw [hx0]; exact Ext.refl)
 intro fuel' listed' ι' a' w' k1 k2 k3 k4 k5 k6 k7
 have heqF : Eqv (sD (segf l lo) s all.length (pL listed')) { sF with ob := true } := by
  refine Eqv.trans (s2 := stN (segf l lo) s (pL listed') all.length) ⟨fun _ => rfl, fun _ => rfl, rfl⟩ ?_
  rw [hfin hi _ k4 k5 hhi]
  have := segf_st (l := l) (lo := lo) heq (hi - lo)
  rw [show lo + (hi - lo) = hi by omega] at this
  refine this.trans (Eqv.trans (s2 := sF) ?_ ⟨fun _ => rfl, fun _ => rfl, rfl⟩)
  rw [hlen] at e3
  exact e3.symm
 have hnx : sF.nx = s.nx + hi := by
  rw [e4, hlen]
  show s.nx + lo + (hi - lo) = s.nx + hi
  omega
 have hsF : Sim ι' O w0 { sD (segf l lo) s all.length (pL listed') with nx := s.nx + hi } a' w' := by
  refine ⟨⟨k6.sim.mem, fun id hid => ?_⟩, k6.sim.size, k6.sim.slots, k6.sim.defers⟩
  have hid : s.nx + hi ≤ id := hid
  rcases Nat.lt_or_ge id (s.nx + all.length) with h | h
  ·have := k6.fresh (id - s.nx) (by omega) (Bool.eq_false_iff.2 fun hp => by have := k5 _ hp; omega)
   rwa [show s.nx + (id - s.nx) = id by omega] at this
  ·exact k6.sim.fresh id h
 have hxs : XS ι' O (sD (segf l lo) s all.length (pL listed')) = XS ι' O { sF with ob := true } := by unfold XS; rw [show lookH _ = lookH _ from funext heqF.hp]
 refine hK fuel' listed' { sF with ob := true } a' w' hk rfl ⟨ι', ?_, ?_⟩ k1 k2 k4 k5
 ·exact hsF.eqv (Eqv.trans (s2 := sD (segf l lo) s all.length (pL listed')) ⟨fun _ => rfl, fun _ => rfl, rfl⟩ heqF) hnx
 ·rw [← hxs]; exact k7
theorem runSeg_ok (hE : EnvOk E) (hI : InlOk E inl) {all : List Oper} {k : S → Option R} {r : R} {Q : Exit → Act → World → Prop} (hlt : ∀ j o, all[j]? = some o → ∀ i ∈ dirs o, i < j) : ∀ (bs : List Nat), (∀ c ∈ bs, BarAt all c) → ∀ (lo : Nat) {ι : Nat → Option Cn} {s : S} {a : Act} {w : World},
  runSeg E inl kp all bs lo s k = some r → lo ≤ all.length → Sim ι O w0 s a w → (∀ s' a' w', k s' = some r → s'.ob = true → Nxt ι O w0 s w s' a' w' → Q .normal a' w') →
  (∀ ch s' a' w', kp ch s' = some r → s'.ob = true → Nxt ι O w0 s w s' a' w' → Q (.panic ch) a' w') →
  ∀ (fuel : Nat) (listed : Array Bool), listed.size = all.length → cnt (pL listed) all.length ≤ fuel → (∀ j, j < lo → pL listed j = true) → (∀ j, pL listed j = true → j < lo) → wpAny E.P .any all.toArray Q fuel listed a w := by
 intro bs
 induction bs with
 | nil =>
  intro _ lo ι s a w hx hll hs hQ hP fuel listed hn hc h1 h2
  simp only [runSeg] at hx
  refine seg_ok hE hlt hll (Nat.le_refl _) (fun p _ _ i o ho _ => .inl (List.getElem?_eq_some_iff.1 ho).1) hx hs ?_ fuel listed hn hc h1 h2
  intro fuel' listed' s' a' w' k1 k2 k3 k4 k5 k6 k7
  have hr : Region.ready .any all.toArray listed' = [] := by
   apply List.eq_nil_iff_forall_not_mem.2
   intro i hi
   obtain ⟨o, m1, m2, _⟩ := (ready_spec k4).1 hi
   rw [k6 i (List.getElem?_eq_some_iff.1 m1).1] at m2
   cases m2
  cases fuel' with
  | zero => exact ⟨hr, hQ _ _ _ k1 k2 k3⟩
  | succ f => exact ⟨fun _ => hQ _ _ _ k1 k2 k3, fun i hi => by rw [hr] at hi; cases hi⟩
 | cons c bs ih =>
  intro hB lo ι s a w hx hll hs hQ hP fuel listed hn hc h1 h2
  obtain ⟨hcl, hbar⟩ := hB c (by simp)
  simp only [runSeg] at hx
  obtain ⟨hlc, hx⟩ := ofBif hx
  have hlc := Nat.le_of_ble_eq_true hlc
  refine seg_ok hE (K := fun s => match nthL all c with
   | some o => bif o.guard.isNone then exec E inl kp o s fun s => runSeg E inl kp all bs (c + 1) s k else none
   | none => none) hlt hlc (Nat.le_of_lt hcl) (fun p hp hp2 i o ho hd => ?_) hx hs ?_ fuel listed hn hc h1 h2
  ·rcases Nat.lt_trichotomy i c with h | h | h
   ·exact .inl h
   ·exact .inr ((hbar p hp i o ho hd).1 h)
   ·have := (hbar p hp i o ho hd).2 h
    have := hp2 c this
    omega
  ·intro fuel' listed' s' a' w' k1 k2 k3 k4 k5 k6 k7
   obtain ⟨ι', z1, z2⟩ := k3
   have hoc : all[c]? = some all[c] := List.getElem?_eq_getElem hcl
   rw [nthL_eq, hoc] at k1
   simp only at k1
   obtain ⟨hg, k1⟩ := ofBif k1
   have hg : all[c].guard = none := by
    cases hq : all[c].guard with
    | none => rfl
    | some x => rw [hq] at hg; cases hg
   have hpc : pL listed' c = false := Bool.eq_false_iff.2 fun hp => by have := k7 c hp; omega
   have hclo : Closed all (pL listed') := fun j o hp ho i hi' => k6 i (by have := hlt j o ho i hi'; have := k7 j hp; omega)
   have hrc : c ∈ Region.ready .any all.toArray listed' := (ready_spec k4).2 ⟨_, hoc, hpc, fun j hj => k6 j (hlt c _ hoc j hj)⟩
   cases fuel' with
   | zero =>
    have := cnt_zero (p := pL listed') _ (Nat.le_zero.1 k5) c hcl
    rw [hpc] at this; cases this
   | succ f =>
    refine ⟨fun hr => (by rw [hr] at hrc; cases hrc), fun i hi => ?_⟩
    obtain ⟨o, m1, m2, m3⟩ := (ready_spec k4).1 hi
    have hic : i = c := by
     rcases Nat.lt_trichotomy i c with h | h | h
     ·rw [k6 i h] at m2; cases m2
     ·exact h
     ·rw [(hbar _ hclo i o m1 m3).2 h] at hpc; cases hpc
    subst hic
    unfold wpOp
    rw [show all.toArray[i]? = some all[i] by simp [List.getElem?_eq_getElem hcl]]
    have hw : Region.wanted all[i] (yielded all.toArray a'.tmps) = true := by simp [Region.wanted, hg]
    show if Region.wanted all[i] (yielded all.toArray a'.tmps) then _ else _
    rw [if_pos hw]
    refine .inl (exec_ok hE hI (fun s hs => runSeg_strict hs) k1 z1 k2 (fun s2 a2 w2 hr ho2 hn2 => ?_) fun ch s2 a2 w2 hr ho2 hn2 => hP ch s2 a2 w2 hr ho2 (by obtain ⟨ι2, y1, y2⟩ := hn2; exact ⟨ι2, y1, z2.trans y2⟩))
    obtain ⟨ι2, y1, y2⟩ := hn2
    have hset := pL_set (listed := listed') (i := i) (by omega)
    refine ih (fun c' hc' => hB c' (by simp [hc'])) (i + 1) hr (by omega) y1 (fun s3 a3 w3 q1 q2 q3 => hQ s3 a3 w3 q1 q2 ?_) (fun ch s3 a3 w3 q1 q2 q3 => hP ch s3 a3 w3 q1 q2 ?_) f _ (by simpa using k4) ?_ ?_ ?_
    ·obtain ⟨ι3, x1, x2⟩ := q3
     exact ⟨ι3, x1, (z2.trans y2).trans x2⟩
    ·obtain ⟨ι3, x1, x2⟩ := q3
     exact ⟨ι3, x1, (z2.trans y2).trans x2⟩
    ·have := cnt_add m2 all.length
     rw [if_pos hcl] at this
     rw [hset]; omega
    ·rw [hset]
     intro j hj
     simp only [add, Bool.or_eq_true]
     rcases Nat.lt_or_ge j i with h | h
     ·exact .inl (k6 j h)
     ·have : j = i := by omega
      subst this
      exact .inr (by simp)
    ·rw [hset]
     intro j hj
     simp only [add, Bool.or_eq_true] at hj
     rcases hj with hj | hj
     ·have := k7 j hj; omega
     ·have := Nat.eq_of_beq_eq_true hj
      omega
theorem Nxt.after {ι' : Nat → Option Cn} {s' s2 : S} {a2 : Act} {w' w2 : World} (h2 : Ext ι ι' (XS ι O s) (XS ι' O s') w w') (h : Nxt ι' O w0 s' w' s2 a2 w2) : Nxt ι O w0 s w s2 a2 w2 := by
 obtain ⟨ι2, h3, h4⟩ := h
 exact ⟨ι2, h3, h2.trans h4⟩
theorem rounds_mono {P : Program} {c : Code} {Q Q' : Exit → Act → World → Prop} (hq : ∀ e a w, Q e a w → Q' e a w) : ∀ n a w, Code.rounds P c Q n a w → Code.rounds P c Q' n a w
 | 0, _, _, h => h
 | n + 1, a, w, h => by
  rw [rounds_succ] at h ⊢
  refine Code.wp_mono ?_ h
  intro e a' w' h'
  cases e with
  | normal => exact rounds_mono hq n a' w' h'
  | _ => exact hq _ _ _ h'
theorem loopN_ok {c : Code} {body : (Ex → S → Option R) → S → Option R} (hb : ∀ (k : Ex → S → Option R) (s : S) (r : R), body k s = some r → ∀ (ι : Nat → Option Cn) (O : Nat → Prop) (w0 : Zone) (a : Act) (w : World), Sim ι O w0 s a w → s.ob = true →
   c.wp E.P (fun e a' w' => ∃ e' s', e = exOf e' ∧ k e' s' = some r ∧ s'.ob = true ∧ Nxt ι O w0 s w s' a' w') a w) (k : Ex → S → Option R) (r : R) : ∀ (n : Nat) (s : S), loopN body k n s = some r → ∀ (ι : Nat → Option Cn) (O : Nat → Prop) (w0 : Zone) (a : Act) (w : World), Sim ι O w0 s a w → s.ob = true →
   Code.rounds E.P c (fun e a' w' => ∃ e' s', e = exOf e' ∧ k e' s' = some r ∧ s'.ob = true ∧ Nxt ι O w0 s w s' a' w') n a w := by
 intro n
 induction n with
 | zero => intro s hx; cases hx
 | succ n ih =>
  intro s hx ι O w0 a w hs hob
  rw [rounds_succ]
  refine Code.wp_mono ?_ (hb _ s r hx ι O w0 a w hs hob)
  rintro e a' w' ⟨e', s', rfl, hk, hob', hn⟩
  cases e' with
  | normal =>
   obtain ⟨ι', h1, h2⟩ := hn
   have := ih s' hk ι' O w0 a' w' h1 hob'
   refine (rounds_mono ?_ n a' w' this : _)
   rintro e2 a2 w2 ⟨e2', s2, h3, h4, h5, h6⟩
   exact ⟨e2', s2, h3, h4, h5, h6.after h2⟩
  | exit id => exact ⟨.exit id, s', rfl, hk, hob', hn⟩
  | ret => exact ⟨.ret, s', rfl, hk, hob', hn⟩
  | goto l => exact ⟨.goto l, s', rfl, hk, hob', hn⟩
  | pan ch => exact ⟨.pan ch, s', rfl, hk, hob', hn⟩
theorem aev_ok (hE : EnvOk E) (hI : InlOk E inl) : ∀ (c : AC) (k : Ex → S → Option R) (s : S) (r : R), LoopsOk E.P c → aev E inl c k s = some r → ∀ (ι : Nat → Option Cn) (O : Nat → Prop) (w0 : Zone) (a : Act) (w : World), Sim ι O w0 s a w → s.ob = true →
  c.erase.wp E.P (fun e a' w' => ∃ e' s', e = exOf e' ∧ k e' s' = some r ∧ s'.ob = true ∧ Nxt ι O w0 s w s' a' w') a w := by
 intro c
 induction c with
 | skip => intro k s r _ hx ι O w0 a w hs hob; exact wp_skip ⟨.normal, s, rfl, hx, hob, Nxt.refl hs⟩
 | exit id => intro k s r _ hx ι O w0 a w hs hob; exact wp_exit ⟨.exit id, s, rfl, hx, hob, Nxt.refl hs⟩
 | ret => intro k s r _ hx ι O w0 a w hs hob; exact wp_ret ⟨.ret, s, rfl, hx, hob, Nxt.refl hs⟩
 | bad c => intro k s r _ hx; cases hx
 | label l => intro k s r _ hx ι O w0 a w hs hob; exact wp_label ⟨.normal, s, rfl, hx, hob, Nxt.refl hs⟩
 | goto l => intro k s r _ hx ι O w0 a w hs hob; exact wp_goto ⟨.goto l, s, rfl, hx, hob, Nxt.refl hs⟩
 | region id ops d =>
  intro k s r _ hx ι O w0 a w hs hob
  cases d with
  | true =>
   simp only [aev] at hx
   split at hx
   ·refine Code.wp_mono ?_ (runDr_ok hE hx hs)
    rintro e a' w' ⟨e', s', h1, h2, h3, h4⟩
    exact ⟨e', s', h1, h2, h3, h4⟩
   ·rename_i bs _
    obtain ⟨hb, hx⟩ := ofBif hx
    simp only [Bool.and_eq_true] at hb
    obtain ⟨hlt, hB⟩ := barsOk_spec hb.2
    have hbel : Below w.heap.size w w.drew := (Below.refl _ _).drew
    obtain ⟨p1, p2⟩ := hs.mem.pass hbel
    have hs1 : Sim ι O w0 s a w.drew := ⟨⟨p1, hs.fresh⟩, hs.size, fun t v hv => ⟨(hs.slots t v hv).1, (hs.slots t v hv).2.ext p2⟩, hs.defers⟩
    have hpl : pL (Array.replicate ops.length false) = fun _ => false := by
     funext j
     simp only [pL, Array.getD_eq_getD_getElem?, Array.getElem?_replicate]
     split <;> rfl
    have hsz : ops.toArray.size = ops.length := by simp
    refine wp_region_any hE.mixed ?_
    rw [hsz]
    refine runSeg_ok hE hI hlt _ hB 0 hx (Nat.zero_le _) hs1 (fun s' a' w' k1 k2 k3 => ?_) (fun ch s' a' w' k1 k2 k3 => ?_) ops.length _ (by simp) ?_ (fun j hj => by omega) (fun j hj => by rw [hpl] at hj; cases hj)
    ·obtain ⟨ι', x1, x2⟩ := k3
     exact ⟨.normal, s', rfl, k1, k2, ι', x1, p2.trans x2⟩
    ·obtain ⟨ι', x1, x2⟩ := k3
     exact ⟨.pan ch, s', rfl, k1, k2, ι', x1, p2.trans x2⟩
    ·rw [hpl]
     have : ∀ (n : Nat) (p : Nat → Bool), cnt p n ≤ n := by
      intro n p
      induction n with
      | zero => exact Nat.le_refl _
      | succ n ih =>
       simp only [cnt]
       cases p n <;> simp <;> omega
     exact this _ _
  | false =>
   refine wp_region_lit (runOps_ok hE hI (k := fun s => bif s.ob then k .normal { s with ob := true } else none) (fun s hs => by show (bif s.ob then k .normal { s with ob := true } else none) = none; rw [hs]; rfl) ops hx hs ?_ fun ch s' a' w' hk hob' hn => ⟨.pan ch, s', rfl, hk, hob', hn⟩)
   intro s' a' w' hk hob' hn
   obtain ⟨_, hk⟩ := ofBif hk
   obtain ⟨ι', h1, h2⟩ := hn
   exact ⟨.normal, { s' with ob := true }, rfl, hk, rfl, ι', h1.ob true, h2⟩
 | seq x y ihx ihy =>
  intro k s r hl hx ι O w0 a w hs hob
  refine wp_seq (Code.wp_mono ?_ (ihx _ s r hl.1 hx ι O w0 a w hs hob))
  rintro e a' w' ⟨e', s', rfl, hk, hob', ι', h1, h2⟩
  cases e' with
  | normal =>
   refine Code.wp_mono ?_ (ihy _ s' r hl.2 hk ι' O w0 a' w' h1 hob')
   rintro e a2 w2 ⟨e2, s2, rfl, hk2, hob2, ι2, h3, h4⟩
   exact ⟨e2, s2, rfl, hk2, hob2, ι2, h3, h2.trans h4⟩
  | exit id => exact ⟨.exit id, s', rfl, hk, hob', ι', h1, h2⟩
  | ret => exact ⟨.ret, s', rfl, hk, hob', ι', h1, h2⟩
  | goto l => exact ⟨.goto l, s', rfl, hk, hob', ι', h1, h2⟩
  | pan ch => exact ⟨.pan ch, s', rfl, hk, hob', ι', h1, h2⟩
 | cond c x y ihx ihy =>
  intro k s r hl hx ι O w0 a w hs hob
  simp only [aev] at hx
  split at hx
  ·rename_i t
   split at hx
   ·rename_i b hb
    have hc : a.eval (.tmp t) = .bool b := ((hs.slots t _ hb).2).bool_inv
    cases b
    ·exact wp_cond_false hc (ihy k _ r hl.2 hx ι O w0 a w (hs.setS hb rfl) hob)
    ·exact wp_cond_true hc (ihx k _ r hl.1 hx ι O w0 a w (hs.setS hb rfl) hob)
   ·cases hx
  ·rename_i b
   cases b
   ·exact wp_cond_false rfl (ihy k _ r hl.2 hx ι O w0 a w hs hob)
   ·exact wp_cond_true rfl (ihx k _ r hl.1 hx ι O w0 a w hs hob)
  ·cases hx
 | block id c ih =>
  intro k s r hl hx ι O w0 a w hs hob
  refine wp_block (Code.wp_mono ?_ (ih _ s r hl hx ι O w0 a w hs hob))
  rintro e a' w' ⟨e', s', rfl, hk, hob', hn⟩
  cases e' with
  | normal => exact ⟨.normal, s', rfl, hk, hob', hn⟩
  | ret => exact ⟨.ret, s', rfl, hk, hob', hn⟩
  | goto l => exact ⟨.goto l, s', rfl, hk, hob', hn⟩
  | pan ch => exact ⟨.pan ch, s', rfl, hk, hob', hn⟩
  | exit i =>
   simp only [exOf, Exit.inBlock]
   cases hq : Nat.beq i id with
   | true =>
    rw [if_pos (Nat.eq_of_beq_eq_true hq)]
    simp only [hq] at hk
    exact ⟨.normal, s', rfl, hk, hob', hn⟩
   | false =>
    rw [if_neg (fun e => by subst e; simp at hq)]
    simp only [hq] at hk
    exact ⟨.exit i, s', rfl, hk, hob', hn⟩
 | loop c ts vs g ih =>
  intro k s r hl hx ι O w0 a w hs hob
  simp only [aev] at hx
  split at hx
  ·rename_i L s1 hn
   obtain ⟨hvo, hx⟩ := ofBif hx
   split at hx
   ·rename_i c0 t ht
    obtain ⟨hc0, hx⟩ := ofBif hx
    subst hc0
    have hS := norm_small hn
    obtain ⟨q1, q2, q3⟩ := hs.toMSim.front hS
    have hsim : Sim (ιL ι L) (OL ι O s L s1) (zoneL hs.toMSim hS) s1 a w := by
     refine ⟨q1, by rw [hS.n]; exact hs.size, fun t v hv => ?_, hs.defers⟩
     obtain ⟨u, h1, h2⟩ := hS.sl t v hv
     obtain ⟨h4, h5⟩ := hs.slots t u h1
     exact ⟨by rw [hS.n]; exact h4, renV_rep Ren.idx q2 h2 h5⟩
    refine Code.wp_mono ?_ (hl s1 t ht _ _ _ a w hsim hS.ob)
    rintro e a' w' ⟨e', s2, hlf, rfl, ι', p1, p2⟩
    have hk := runTr_leaf hlf hx
    split at hk
    ·rename_i s' hb
     unfold back at hb
     split at hb
     ·rename_i sl hsl
      split at hb
      ·rename_i hp hhp
       injection hb with hb; subst hb
       obtain ⟨ι2, z1, z2, z3⟩ := hs.toMSim.back hS hvo p1.toMSim p2 hhp (s' := ⟨sl, hp ++ (L.map (fun i => (i, none)) ++ s.hp), s.nx + s2.nx, true, s2.n⟩) rfl rfl
       refine ⟨e', _, rfl, hk, rfl, ι2, ⟨z1, p1.size, fun t v hv => ?_, p1.defers⟩, z2⟩
       obtain ⟨u, k1, k2⟩ := renS_look hsl hv
       obtain ⟨h4, h5⟩ := p1.slots t u k1
       exact ⟨h4, z3 _ _ _ k2 h5⟩
      ·cases hb
     ·cases hb
    ·cases hk
   ·cases hx
  ·cases hx
 | unr n c ih =>
  intro k s r hl hx ι O w0 a w hs hob
  exact wp_loop_rounds n (loopN_ok (fun k s r hx ι O w0 a w hs hob => ih k s r hl hx ι O w0 a w hs hob) k r n s hx ι O w0 a w hs hob)
 | scope c rest l ts vs g ih _ =>
  intro k s r hl hx ι O w0 a w hs hob
  simp only [aev] at hx
  refine wp_scope_to l (Code.wp_mono ?_ (ih _ s r hl.1 hx ι O w0 a w hs hob))
  rintro e a1 w1 ⟨e', s', rfl, hk, hob', ι1, hs1, hx1⟩
  cases e' with
  | normal => exact ⟨.normal, s', rfl, hk, hob', ι1, hs1, hx1⟩
  | exit id => exact ⟨.exit id, s', rfl, hk, hob', ι1, hs1, hx1⟩
  | ret => exact ⟨.ret, s', rfl, hk, hob', ι1, hs1, hx1⟩
  | pan ch => exact ⟨.pan ch, s', rfl, hk, hob', ι1, hs1, hx1⟩
  | goto l' =>
   simp only at hk
   obtain ⟨hll, hk⟩ := ofBif hk
   have hll := Nat.eq_of_beq_eq_true hll
   refine ⟨hll, ?_⟩
   split at hk
   ·rename_i L s1 hn
    obtain ⟨hvo, hk⟩ := ofBif hk
    split at hk
    ·rename_i c0 t ht
     obtain ⟨hc0, hk⟩ := ofBif hk
     subst hc0
     have hS := norm_small hn
     obtain ⟨q1, q2, q3⟩ := hs1.toMSim.front hS
     have hsim : Sim (ιL ι1 L) (OL ι1 O s' L s1) (zoneL hs1.toMSim hS) s1 a1 w1 := by
      refine ⟨q1, by rw [hS.n]; exact hs1.size, fun t v hv => ?_, hs1.defers⟩
      obtain ⟨u, h1, h2⟩ := hS.sl t v hv
      obtain ⟨h4, h5⟩ := hs1.slots t u h1
      exact ⟨by rw [hS.n]; exact h4, renV_rep Ren.idx q2 h2 h5⟩
     obtain ⟨rst, hf, hJ⟩ := hl.2 s1 t ht _ _ _ a1 w1 hsim hS.ob
     refine ⟨rst, hf, fun b kk cs => ?_⟩
     obtain ⟨e, a2, w2, ⟨e', s2, hlf, rfl, ι', p1, p2⟩, harr⟩ := hJ b kk cs
     refine ⟨_, a2, w2, ?_, harr⟩
     have hk := runTr_leaf hlf hk
     split at hk
     ·rename_i s3 hb
      unfold back at hb
      split at hb
      ·rename_i sl hsl
       split at hb
       ·rename_i hp hhp
        injection hb with hb; subst hb
        obtain ⟨ι2, z1, z2, z3⟩ := hs1.toMSim.back hS hvo p1.toMSim p2 hhp (s' := ⟨sl, hp ++ (L.map (fun i => (i, none)) ++ s'.hp), s'.nx + s2.nx, true, s2.n⟩) rfl rfl
        have hk2 : k e' ⟨sl, hp ++ (L.map (fun i => (i, none)) ++ s'.hp), s'.nx + s2.nx, true, s2.n⟩ = some r := by
         split at hk
         ·cases hk
         ·exact hk
        refine ⟨e', _, rfl, hk2, rfl, ι2, ⟨z1, p1.size, fun t v hv => ?_, p1.defers⟩, hx1.trans z2⟩
        obtain ⟨u, k1, k2⟩ := renS_look hsl hv
        obtain ⟨h4, h5⟩ := p1.slots t u k1
        exact ⟨h4, z3 _ _ _ k2 h5⟩
       ·cases hb
      ·cases hb
     ·cases hk
    ·cases hk
   ·cases hk
def resM (tmps : Array Value) : ResultVar → Sem Value
 | .tmp t => pure (tmps.getD t Go.undef)
 | .cell x t => do loadVar t (← asAddr (tmps.getD x Go.undef))
theorem resV_ok : ∀ (rs : List ResultVar) {l : List V}, resV E.P s rs = some l → Sim ι O w0 s a w →
  ∃ cs, (rs.mapM (resM a.tmps)).run E.P w = .ok cs w ∧ VReps ι (XS ι O s) w l cs
 | [], l, h, hs => by injection h with h; subst h; exact ⟨[], by simp, .nil⟩
 | .tmp t :: rs, l, h, hs => by
  simp only [resV] at h
  cases h1 : look s.sl t with
  | none => rw [h1] at h; cases h
  | some v =>
   cases h2 : resV E.P s rs with
   | none => rw [h1, h2] at h; cases h
   | some l' =>
    rw [h1, h2] at h; injection h with h; subst h
    obtain ⟨cs, q1, q2⟩ := resV_ok rs h2 hs
    exact ⟨_ :: cs, by rw [List.mapM_cons]; simp only [resM, Sem.run_bind, Sem.run_pure, Result.andThen_ok]; rw [q1]; rfl, .cons (hs.slots t v h1).2 q2⟩
 | .cell t ty :: rs, l, h, hs => by
  simp only [resV] at h
  split at h
  ·rename_i id p off sh h1
   split at h
   ·rename_i b hb
    split at h
    ·rename_i v hg
     split at h
     ·rename_i l' h2
      obtain ⟨hl, h⟩ := ofBif h
      injection h with h; subst h
      obtain ⟨cs, q1, q2⟩ := resV_ok rs h2 hs
      have hv := (hs.slots t _ h1).2
      obtain ⟨g, hc, _⟩ := hv.ref_inv
      obtain ⟨d, r1, r2⟩ := op_load (P := E.P) (t := ty) hs.mem hv (.inl ⟨id, p, off, sh, b, rfl, hb, hg, hl⟩)
      rw [hc] at r1
      have r1' : (loadVar ty ⟨g, off, none⟩).run E.P w = .ok d w := by simpa [Instr.loadAt, Instr.sureAddr] using r1
      refine ⟨d :: cs, ?_, .cons r2 q2⟩
      have e : resM a.tmps (.cell t ty) = loadVar ty ⟨g, off, none⟩ := by
       show (do loadVar ty (← asAddr (a.tmps.getD t Go.undef))) = _
       rw [hc]
       rfl
      rw [List.mapM_cons, Sem.run_bind, e, r1', Result.andThen_ok, Sem.run_bind, q1]
      rfl
     ·cases h
    ·cases h
   ·cases h
  ·cases h
theorem tupV_rep {X : Nat → Prop} {l : List V} {cs : List Value} (h : VReps ι X w l cs) : VRep ι X w (tupV l) (if h : cs.toArray.size = 1 then cs.toArray[0] else .tuple cs.toArray) := by
 have hl := h.length
 match l, cs, h, hl with
 | [], [], h, _ => exact .tup h
 | [v], [c], h, _ => cases h with | cons a b => exact a
 | u :: v :: l, c :: d :: cs, h, _ => exact VRep.tup h
theorem results_ok {fn : Func} {l : List V} (h : resV E.P s fn.results.toList = some l) (hs : Sim ι O w0 s a w) : ∃ cs : List Value, VReps ι (XS ι O s) w l cs ∧ (results fn a.tmps).run E.P w = .ok (if h : cs.toArray.size = 1 then cs.toArray[0] else .tuple cs.toArray) w := by
 obtain ⟨cs, h1, h2⟩ := resV_ok _ h hs
 refine ⟨cs, h2, ?_⟩
 have hres : results fn a.tmps = (do let vs ← fn.results.mapM (resM a.tmps); pure (if h : vs.size = 1 then vs[0] else .tuple vs)) := by
  unfold results
  congr
 rw [hres, Array.mapM_eq_mapM_toList, Sem.run_bind, map_eq_pure_bind, Sem.run_bind, h1]
 rfl
theorem slots_look : ∀ (vs : List V) (i t : Nat) {v : V}, look (slots i vs) t = some v → ∃ j, t = i + j ∧ vs[j]? = some v
 | [], i, t, v, h => by cases h
 | x :: vs, i, t, v, h => by
  simp only [slots, look] at h
  cases hq : Nat.beq i t with
  | true =>
   rw [hq] at h; injection h with h; subst h
   exact ⟨0, (Nat.eq_of_beq_eq_true hq).symm, rfl⟩
  | false =>
   rw [hq] at h
   obtain ⟨j, h1, h2⟩ := slots_look vs (i + 1) t h
   exact ⟨j + 1, by omega, by simpa using h2⟩
theorem Sim.start {vs : List V} {cs : List Value} {n : Nat} (hm : MSim ι O w0 s w) (hv : VReps ι (XS ι O s) w vs cs) (hn : vs.length ≤ n) :
  Sim ι O w0 { s with sl := Am.slots 0 vs, n := n } { tmps := cs.toArray ++ Array.replicate (n - cs.toArray.size) Go.undef, defers := [] } w := by
 have hl := hv.length
 refine ⟨⟨hm.mem, hm.fresh⟩, by simp; omega, fun t v ht => ?_, rfl⟩
 obtain ⟨j, e, hj⟩ := slots_look vs 0 t ht
 have e : t = j := by omega
 subst e
 rw [← nthL_eq] at hj
 obtain ⟨c, h1, h2⟩ := hv.nth hj
 have hlt : t < cs.length := (List.getElem?_eq_some_iff.1 h1).1
 refine ⟨by show t < n; omega, ?_⟩
 have : (cs.toArray ++ Array.replicate (n - cs.toArray.size) Go.undef).getD t Go.undef = c := by
  rw [Array.getD_eq_getD_getElem?, Array.getElem?_append_left (by simpa using hlt)]
  simp [h1]
 rw [this]
 exact h2
theorem inlN_ok (hE : EnvOk E) : ∀ d, InlOk (R := R) E (inlN E d)
 | 0 => by intro f af _ as s k r hx; cases hx
 | d + 1 => by
  intro f af haf as s k r hx ι O w0 w cs hm hob hv
  obtain ⟨hn, hx⟩ := ofBif hx
  obtain ⟨fn, h1, h2, h3, h4⟩ := haf.code
  have hle : as.length ≤ af.n := Nat.le_of_ble_eq_true hn
  have hs := Sim.start (n := af.n) hm hv hle
  refine calls_of_wp h1 h2 ?_
  rw [h4]
  refine Code.wp_mono ?_ (aev_ok hE (inlN_ok hE d) af.ac _ _ r haf.loops hx ι O w0 _ w hs hob)
  rintro e a' w' ⟨e', s', rfl, hk, hob', ι', q1, q2⟩
  have fin : (match resV E.P s' af.results with | some l => k (tupV l) s' | none => none) = some r → bodyPost E.P fn (fun e w' => ∃ c v s' ι', e = .returned c ∧ k v s' = some r ∧ s'.ob = true ∧ MSim ι' O w0 s' w' ∧ Ext ι ι' (XS ι O s) (XS ι' O s') w w' ∧ VRep ι' (XS ι' O s') w' v c) .ret a' w' := by
   intro hk
   split at hk
   ·rename_i l hl
    rw [← h3] at hl
    obtain ⟨cs', r1, r2⟩ := results_ok hl q1
    exact ⟨q1.defers, _, r2, _, _, s', ι', rfl, hk, hob', q1.toMSim, q2, tupV_rep r1⟩
   ·cases hk
  cases e' with
  | normal => exact fin hk
  | ret => exact fin hk
  | exit id => cases hk
  | goto l => cases hk
  | pan ch => cases hk
theorem RowC.any {ι' : Nat → Option Cn} {X : Nat → Prop} {n e v ds} (h : RowC ι X w n e v ds) : RowC ι' X w n e v ds := by
 cases h with
 | bytes => exact .bytes
 | rows he hr => exact .rows he (CReps.any_of (fun p q => CRep.any p q) hr he)
theorem sub_ext {X Y : Nat → Prop} (h : ∀ b, Y b → X b) : Ext no no X Y w w := Ext.mk (Nat.le_refl _) (fun _ _ e => e) (fun _ _ _ => rfl) (fun b hb => .inl (h b hb))
theorem ownsRow_up {base base' : Nat} {T : TypeId} {size n c m : Nat} {A : Option Addr} {ds : List Value} (h : w.ownsRow base T size (.slice A n c) m ds) (hb : ∀ a, A = some a → base' ≤ a.block) : w.ownsRow base' T size (.slice A n c) m ds := by
 refine ⟨h.1, h.2.imp id ?_⟩
 rintro ⟨g, cap, cur, e, hg, r⟩
 refine ⟨g, cap, cur, e, ?_, r⟩
 injection e with e1 _ _
 exact hb _ e1
theorem packs_out {hp : Nat → Option Blk} {w' : World} {hgd : LaidW w} (h : HSim ι O (allOf w hgd) hp w') {tys : List (Sh × TypeId)} {l l' : List V} {cs : List Value} (hp' : packs hp tys l = some l') (hv : VReps ι (Ex1 ι hp O) w' l cs) :
  OutRep O w w' (tupV l') (if h : cs.toArray.size = 1 then cs.toArray[0] else .tuple cs.toArray) := by
 have outer : ∀ hp b, O b → Ex1 ι hp O b := fun _ b hb => .inl hb
 cases tys with
 | nil =>
  cases l with
  | nil => injection hp' with hp'; subst hp'; cases hv; exact .val (.tup .nil)
  | cons v l => cases hp'
 | cons s tys =>
  cases l with
  | nil => cases hp'
  | cons v l =>
   cases hv with
   | cons hv0 hvr =>
    rename_i c cs
    simp only [packs] at hp'
    split at hp'
    ·rename_i x y hpk hlw
     obtain ⟨hid, hp'⟩ := ofBif hp'
     injection hp' with hp'; subst hp'
     obtain ⟨hs1, hx1⟩ := h.seals (idss l)
     have hrest := lows_rep h hx1 l hlw (Lent.seal h _) LentV.no hvr
     have hlen := hrest.length
     -- by value
     have plain : VRep no O w' x c → OutRep O w w' (tupV (x :: y)) (if h : (c :: cs).toArray.size = 1 then (c :: cs).toArray[0] else .tuple (c :: cs).toArray) := by
      intro hx
      exact .val (tupV_rep (.cons hx (hrest.ext (sub_ext fun b hb => .inl hb))))
     -- a row that is handed over
     have handed : ∀ {T : TypeId} {u : V} {A : Option Addr} {n k : Nat} {ds : List Value}, x = .ownv T u → c = .slice A n k → RowC no (fun b => O b ∨ A.map (·.block) = some b) w' n (elSh u) u ds → w'.ownsRow w.heap.size T (elSh u).size (.slice A n k) n ds →
       (∀ b, A.map (·.block) = some b → Ex1 ι (updH (sealB hp (idss l)) hp) O b) → OutRep O w w' (tupV (x :: y)) (if h : (c :: cs).toArray.size = 1 then (c :: cs).toArray[0] else .tuple (c :: cs).toArray) := by
      rintro T u A n k ds rfl rfl hr ho hb
      have hrest' := hrest.ext (sub_ext (w := w') (Y := fun b => O b ∨ A.map (·.block) = some b) fun b hb' => hb'.elim (fun h => .inl h) (hb b))
      cases y with
      | nil =>
       cases hrest
       exact .own hr ho
      | cons y0 y =>
       cases cs with
       | nil => simp at hlen
       | cons c0 cs =>
        have := OutRep.tup hr ho hrest'
        exact this
     have byLow : low false hp s.1 v = some x → OutRep O w w' (tupV (x :: y)) (if h : (c :: cs).toArray.size = 1 then (c :: cs).toArray[0] else .tuple (c :: cs).toArray) := by
      intro hl
      obtain ⟨hs2, hx2⟩ := h.seals (ids v)
      exact plain ((low_repV h hx2 hl (Lent.seal h _) LentV.no hv0).ext (sub_ext fun b hb => .inl hb))
     cases v with
     | own id n sh =>
      simp only [pack] at hpk
      obtain ⟨A, k, T0, rfl, hi, hA⟩ := hv0.own_inv
      split at hpk
      ·rename_i T sh' u hk
       injection hpk with hpk
       cases h.blk id _ hk with
       | row h1 h2 h3 =>
        rw [hi] at h1; injection h1 with h1; injection h1 with e1 e2 e3 e4 e5
        subst e1; subst e2; subst e3; subst e4; subst e5
        have hel := h2.elSh
        have hmine : ∀ b, A.map (·.block) = some b → Mine ι hp id b := by
         intro b hb
         cases A with
         | none => cases hb
         | some a' => injection hb with hb; subst hb; exact ⟨_, _, hk, rfl, hi, rfl⟩
        refine handed hpk.symm rfl (by rw [hel]; exact (h2.any (ι' := no)).ext (sub_ext fun b hb => hb.elim (fun h => .inl h) fun hb => .inr ⟨id, hmine b hb⟩)) (by rw [hel]; exact ownsRow_up h3 fun a' ha' => Nat.not_lt.1 (h.fresh id _ (hmine _ (by rw [ha']; rfl))).1) ?_
        intro b hb
        obtain ⟨kk, cc, m1, m2, m3, m4⟩ := hmine b hb
        refine .inr ⟨id, kk, cc, ?_, m2, m3, m4⟩
        rw [seal_at, if_neg (by simpa [idOk] using hid)]
        exact m1
      ·rename_i u hk
       injection hpk with hpk; subst hpk
       rcases own_cont h hi hk with ⟨ds, _, _, h3⟩ | ⟨h1, h2, _, _⟩
       ·cases h3
       ·refine plain (.one ((row_any h2 h1).ext (sub_ext fun b hb => .inl hb)) ?_)
        revert h2
        cases u <;> simp [isRow, contV, V.isAgg]
      ·cases hpk
     | nils =>
      simp only [pack] at hpk
      obtain ⟨u, hu, hx⟩ := Option.map_eq_some_iff.1 hpk
      cases hv0.nils_inv
      have hform : u = .bytes [] ∨ ∃ e, u = .rows e [] := by
       revert hu
       cases s.1 <;> simp [low] <;> intro h <;> first | exact .inl h.symm | exact .inr ⟨_, h.symm⟩
      rcases hform with rfl | ⟨e, rfl⟩
      ·exact handed hx.symm rfl (.bytes (l := [])) (World.ownsRow_nil w' _ _ _) fun b hb => by cases hb
      ·exact handed hx.symm rfl (.rows (l := []) (by simp) .nil) (World.ownsRow_nil w' _ _ _) fun b hb => by cases hb
     | _ => exact byLow hpk
    ·cases hp'
theorem callV_ok (hE : EnvOk E) {f : FuncId} {af : AF} (haf : AfOk E.P f af) {vs : List V} {v : V} (h : callV E af vs = some v) : SpecV E.P f vs v := by
 intro O w cs hO hv
 have hgd := hO.good
 obtain ⟨hn, hx⟩ := ofBif h
 obtain ⟨fn, h1, h2, h3, h4⟩ := haf.code
 have hle : vs.length ≤ af.n := Nat.le_of_ble_eq_true hn
 have hnone : ∀ {X : Nat → Prop}, Ex1 no (lookH []) X = X := by
  intro X
  funext b
  apply propext
  exact ⟨fun h => h.elim id fun ⟨_, _, _, h, _⟩ => (by cases h), .inl⟩
 have hm : MSim no O (allOf w hgd) ⟨[], [], 0, true, 0⟩ w := by
  refine ⟨⟨Keeps.refl _ _, fun _ h => h, hO.lt, fun id k hk => (by cases hk), fun id id' b h => ?_, fun id b h => ?_⟩, fun _ _ => rfl⟩
  ·obtain ⟨_, _, h, _⟩ := h; cases h
  ·obtain ⟨_, _, h, _⟩ := h; cases h
 have hv' : VReps no (XS no O ⟨[], [], 0, true, 0⟩) w vs cs := by unfold XS; rw [hnone]; exact hv
 have hs := Sim.start (n := af.n) hm hv' hle
 refine calls_of_wp h1 h2 ?_
 rw [h4]
 refine Code.wp_mono ?_ (aev_ok hE (inlN_ok hE 6) af.ac _ _ v haf.loops hx no O (allOf w hgd) _ w hs rfl)
 rintro e a' w' ⟨e', s', rfl, hk, hob', ι', q1, q2⟩
 have fin : (match resV E.P s' af.results with | some l => (packs (lookH s'.hp) af.rty l).map tupV | none => none) = some v → bodyPost E.P fn (fun e w' => Below w.heap.size w w' ∧ ∃ c, e = .returned c ∧ OutRep O w w' v c) .ret a' w' := by
  intro hk
  split at hk
  ·rename_i l hl
   rw [← h3] at hl
   obtain ⟨cs', r1, r2⟩ := results_ok hl q1
   obtain ⟨l', hl', rfl⟩ := Option.map_eq_some_iff.1 hk
   exact ⟨q1.defers, _, r2, q1.mem.below.below, _, rfl, packs_out q1.mem hl' r1⟩
  ·cases hk
 cases e' with
 | normal => exact fin hk
 | ret => exact fin hk
 | exit id => cases hk
 | goto l => cases hk
 | pan ch => cases hk
end
end Go.Am
namespace Go.Am
open Go Go.RowKit Go.Bas
section
variable {ι : Nat → Option Cn} {O : Nat → Prop} {w0 : Zone} {w : World} {s : S} {a : Act}
theorem least (p : Nat → Prop) (h : ∃ n, p n) : ∃ n, p n ∧ ∀ m, p m → n ≤ m := by
 obtain ⟨n, hn⟩ := h
 induction n using Nat.strongRecOn with
 | _ n ih =>
  by_cases hq : ∃ m, m < n ∧ p m
  ·obtain ⟨m, h1, h2⟩ := hq; exact ih m h1 h2
  ·exact ⟨n, hn, fun m hm => by
    rcases Nat.lt_or_ge m n with h | h
    ·exact absurd ⟨m, h, hm⟩ hq
    ·exact h⟩
structure Covers (s st : S) : Prop where
 n : st.n = s.n
 nx : st.nx = s.nx
 ob : st.ob = true
 sl : ∀ t v, look st.sl t = some v → look s.sl t = some v
 hp : ∀ id k, lookH st.hp id = some k → lookH s.hp id = some k
theorem Sim.cover {st : S} (h : Sim ι O w0 s a w) (hc : Covers s st) : Sim ι O w0 st a w ∧ Ext ι ι (XS ι O s) (XS ι O st) w w := by
 have mine : ∀ i b, Mine ι (lookH st.hp) i b → Mine ι (lookH s.hp) i b := by
  rintro i b ⟨k, c, h1, h2⟩
  exact ⟨k, c, hc.hp _ _ h1, h2⟩
 have hX : ∀ b, XS ι O st b → XS ι O s b := by
  rintro b (hb | ⟨i, hm⟩)
  ·exact .inl hb
  ·exact .inr ⟨i, mine i b hm⟩
 have he : Ext ι ι (XS ι O s) (XS ι O st) w w := Ext.mk (Nat.le_refl _) (fun _ _ e => e) (fun _ _ _ => rfl) (fun b hb => .inl (hX b hb))
 refine ⟨⟨⟨⟨h.mem.below, h.mem.old_lt, h.mem.outer, fun id k hk => ?_, fun i i' b h1 h2 => h.mem.one i i' b (mine i b h1) (mine i' b h2), fun i b hm => h.mem.fresh i b (mine i b hm)⟩, fun id hid => h.fresh id (by rw [← hc.nx]; exact hid)⟩, by rw [hc.n]; exact h.size, fun t v hv => ?_, h.defers⟩, he⟩
 ·cases h.mem.blk id k (hc.hp _ _ hk) with
  | var hi hs hg hr => exact .var hi hs hg (hr.ext he)
  | row hi hr ho => exact .row hi (hr.ext he) ho
  | view hi hr hw hs => exact .view hi (hr.ext he) hw hs
 ·obtain ⟨h1, h2⟩ := h.slots t v (hc.sl t v hv)
  exact ⟨by rw [hc.n]; exact h1, h2.ext he⟩
theorem gOf_spec {n k : Nat} {f : (Nat → Option V) → (Nat → Option Blk) → Option (Bool × Tr)} {s : S} {t : Tr} (h : gOf n k f s = some (true, t)) : s.n = n ∧ s.nx = k ∧ s.ob = true ∧ f (look s.sl) (lookH s.hp) = some (true, t) := by
 obtain ⟨h1, h2⟩ := ofBif h
 simp only [Bool.and_eq_true] at h1
 exact ⟨Nat.eq_of_beq_eq_true h1.1.1, Nat.eq_of_beq_eq_true h1.1.2, h1.2, h2⟩
theorem Covers.one {s : S} {n k : Nat} {sl : List (Nat × V)} {hp : List (Nat × Option Blk)} (hn : s.n = n) (hk : s.nx = k) (hsl : ∀ p ∈ sl, look s.sl p.1 = some p.2) (hhp : ∀ p ∈ hp, ∀ b, p.2 = some b → lookH s.hp p.1 = some b) : Covers s ⟨sl, hp, k, true, n⟩ := by
 refine ⟨hn.symm, hk.symm, rfl, fun t v hv => hsl _ (look_mem hv), fun id b hb => ?_⟩
 have : ∀ hp : List (Nat × Option Blk), lookH hp id = some b → (id, some b) ∈ hp := by
  intro hp
  induction hp with
  | nil => intro h; cases h
  | cons x r ih =>
   obtain ⟨y, v⟩ := x
   intro h
   simp only [lookH] at h
   cases hq : Nat.beq y id with
   | true => rw [hq] at h; have := Nat.eq_of_beq_eq_true hq; subst this; simp only [cond_true] at h; subst h; simp
   | false => rw [hq] at h; exact List.mem_cons_of_mem _ (ih h)
 exact hhp _ (this hp hb) b rfl
theorem loop_ok {E : Env} (hE : EnvOk E) {d : Nat} {c : AC} (hl : LoopsOk E.P c) (ts xs vs : List Nat) (g : S → Option (Bool × Tr)) {X : Type} (st : X → S) (out : X → Tr) (I : X → Prop) (m : X → Nat)
  (hg : ∀ s t, g s = some (true, t) → ∃ x, Covers s (st x) ∧ I x ∧ t = out x)
  (hb : ∀ x, I x → (∃ x', aev E (inlN E d) c (bodyK ts xs vs) (st x) = some (.normal, st x') ∧ I x' ∧ m x' < m x ∧ (∀ e s, Leaf (out x') e s → Leaf (out x) e s)) ∨
   (∃ e s', aev E (inlN E d) c (bodyK ts xs vs) (st x) = some (e, s') ∧ e ≠ .normal ∧ Leaf (out x) e s')) :
  LoopOk E.P c.erase vs g := by
 intro s t ht ι O w0 a w hs0 hob
 obtain ⟨x0, hcov, hI0, rfl⟩ := hg s t ht
 obtain ⟨hs, he0⟩ := hs0.cover hcov
 have hob : (st x0).ob = true := hcov.ob
 let Inv : Nat → Act → World → Prop := fun n a' w' => ∃ x ι', m x = n ∧ I x ∧ Sim ι' O w0 (st x) a' w' ∧ (st x).ob = true ∧ ExtP (· ∈ vs) ι ι' (XS ι O s) (XS ι' O (st x)) w w' ∧ (∀ e s, Leaf (out x) e s → Leaf (out x0) e s)
 let μ : Act → World → Nat := fun a' w' => by
  classical
  exact if h : ∃ n, Inv n a' w' then (least _ h).choose else 0
 have hμ : ∀ a' w', (∃ n, Inv n a' w') → Inv (μ a' w') a' w' ∧ ∀ n, Inv n a' w' → μ a' w' ≤ n := by
  intro a' w' h
  have e : μ a' w' = (least _ h).choose := by simp only [μ, dif_pos h]
  rw [e]
  exact (least _ h).choose_spec
 refine wp_loop (fun a' w' => ∃ n, Inv n a' w') μ ⟨_, x0, ι, rfl, hI0, hs, hob, he0.part _, fun _ _ h => h⟩ ?_
 intro a1 w1 hinv
 obtain ⟨⟨x, ι2, hm, hI, hs2, ho2, he2, hlf⟩, hmin⟩ := hμ a1 w1 hinv
 rcases hb x hI with ⟨x', h1, h2, h3, h4⟩ | ⟨e, s', h1, h2, h3⟩
 ·refine Code.wp_mono ?_ (aev_ok hE (inlN_ok hE d) c _ _ _ hl h1 ι2 O w0 a1 w1 hs2 ho2)
  rintro e2 a2 w2 ⟨e', s', rfl, hk, hob', ι3, q1, q2⟩
  unfold bodyK at hk
  split at hk
  ·rename_i L s3 hs3
   obtain ⟨hfx, hk⟩ := ofBif hk
   injection hk with hk; injection hk with k1 k2
   subst k1; subst k2
   obtain ⟨ι4, r1, r2, r3⟩ := q1.norm hs3 hfx
   have hnew : Inv (m x') a2 w2 := ⟨x', ι4, rfl, h2, r1, r3, (he2.trans (q2.part _)).trans r2, fun e s h => hlf e s (h4 e s h)⟩
   exact ⟨⟨_, hnew⟩, by have := (hμ a2 w2 ⟨_, hnew⟩).2 _ hnew; omega⟩
  ·cases hk
 ·refine Code.wp_mono ?_ (aev_ok hE (inlN_ok hE d) c _ _ _ hl h1 ι2 O w0 a1 w1 hs2 ho2)
  rintro e2 a2 w2 ⟨e', s2, rfl, hk, hob', ι3, q1, q2⟩
  unfold bodyK at hk
  split at hk
  ·rename_i L s3 hs3
   obtain ⟨hfx, hk⟩ := ofBif hk
   injection hk with hk; injection hk with k1 k2
   subst k1; subst k2
   obtain ⟨ι4, r1, r2, r3⟩ := q1.norm hs3 hfx
   have fin : ∃ e2 s'', Leaf (out x0) e2 s'' ∧ exOf e' = exOf e2 ∧ ∃ ι', Sim ι' O w0 s'' a2 w2 ∧ ExtP (· ∈ vs) ι ι' (XS ι O s) (XS ι' O s'') w w2 := ⟨_, _, hlf _ _ h3, rfl, ι4, r1, (he2.trans (q2.part _)).trans r2⟩
   cases e' with
   | normal => exact absurd rfl h2
   | exit id => exact fin
   | ret => exact fin
   | goto l => exact fin
   | pan ch => exact fin
  ·cases hk
end
end Go.Am