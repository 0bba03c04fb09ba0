/- The abstract machine: what an operation asks for; regions that draw their order. -/
import Derived.Test.YthbllfhaaidhjaaAmo
import Derived.Orders
import Derived.KernelRfl
namespace Go.Am
open Go Go.RowKit Go.Bas
section
variable {hp hp' : Nat → Option Blk}
mutual
theorem low_congr : ∀ (v : V) (sh : Sh), (∀ i ∈ ids v, hp i = hp' i) → low hp sh v = low hp' sh v
  | .own id n s, sh, h => by
    have := h id (by simp [ids])
    cases sh <;> simp only [low, this]
  | .agg l, sh, h => by
    cases sh <;> simp only [low]
    rw [lows_congr l _ h]
  | .int _ _, sh, _ => by cases sh <;> simp only [low]
  | .bool _, sh, _ => by cases sh <;> simp only [low]
  | .str _, sh, _ => by cases sh <;> simp only [low]
  | .nils, sh, _ => by cases sh <;> simp only [low]
  | .bytes _, sh, _ => by cases sh <;> simp only [low]
  | .rows _ _, sh, _ => by cases sh <;> simp only [low]
  | .barr _ _, sh, _ => by cases sh <;> simp only [low]
  | .arr _ _ _, sh, _ => by cases sh <;> simp only [low]
  | .tup _, sh, _ => by cases sh <;> simp only [low]
  | .ref _ _ _ _, sh, _ => by cases sh <;> simp only [low]
  | .vref _ _, sh, _ => by cases sh <;> simp only [low]
  | .ownv _ _, sh, _ => by cases sh <;> simp only [low]
  | .fn _ _ _, sh, _ => by cases sh <;> simp only [low]
  | .nil _, sh, _ => by cases sh <;> simp only [low]
  | .void, sh, _ => by cases sh <;> simp only [low]
  | .undef, sh, _ => by cases sh <;> simp only [low]
theorem lows_congr : ∀ (l : List V) (sh : List Sh), (∀ i ∈ idss l, hp i = hp' i) → lows hp sh l = lows hp' sh l
  | [], sh, _ => by cases sh <;> simp only [lows]
  | v :: l, sh, h => by
    cases sh with
    | nil => simp only [lows]
    | cons s sh => simp only [lows]; rw [low_congr v s (fun i hi => h i (by simp [idss, hi])), lows_congr l sh (fun i hi => h i (by simp [idss, hi]))]
end
theorem seal_congr {l : List Nat} (h : ∀ i ∈ l, hp i = hp' i) : sealB hp l = sealB hp' l := by
  unfold sealB
  exact List.map_congr_left fun i hi => by rw [h i hi]
theorem sliceC_congr {v : V} (h : ∀ i ∈ ids v, hp i = hp' i) : sliceC hp v = sliceC hp' v := by
  cases v <;> try rfl
  rename_i id n s
  show (hp id).map contV = (hp' id).map contV
  rw [h id (by simp [ids])]
theorem appV_congr {x y : V} (h : ∀ i ∈ idss [x, y], hp i = hp' i) : appV hp x y = appV hp' x y := by
  unfold appV
  rw [sliceC_congr (fun i hi => h i (by simp [idss, hi]))]
  split
  · cases x <;> try rfl
    rename_i id n s
    simp only [h id (by simp [idss, ids])]
  · rfl
theorem appOk_congr {T : TypeId} {x : V} (h : ∀ i ∈ ids x, hp i = hp' i) : appOk hp T x = appOk hp' T x := by
  cases x <;> try rfl
  rename_i id n s
  simp only [appOk, h id (by simp [ids])]
theorem act_congr {P : Program} {G : List (Nat × Con)} {o : Oper} {vs : List V} {nid : Nat} (h : ∀ i ∈ tchOf o vs, hp i = hp' i) : act P G o vs hp nid = act P G o vs hp' nid := by
  obtain ⟨dst, op, type, pos, aft, guard⟩ := o
  cases op with
  | load t x =>
    have h : ∀ i ∈ idss vs, hp i = hp' i := h
    match vs, h with
    | [], _ => rfl
    | [x], h =>
      cases x with
      | ref id p off sh => simp only [act, h id (by simp [idss, ids])]
      | _ => rfl
    | _ :: _ :: _, _ => rfl
  | store t x y =>
    have h : ∀ i ∈ idss vs, hp i = hp' i := h
    match vs, h with
    | [], _ => rfl
    | [_], _ => rfl
    | [x, y], h =>
      cases x with
      | ref id p off sh => simp only [act, h id (by simp [idss, ids]), low_congr y sh (fun i hi => h i (by simp [idss, hi])), seal_congr (l := ids y) (fun i hi => h i (by simp [idss, hi]))]
      | _ => rfl
    | _ :: _ :: _ :: _, _ => rfl
  | convert s d x =>
    have h : ∀ i ∈ idss vs, hp i = hp' i := h
    match vs, h with
    | [], _ => rfl
    | [x], h =>
      have : convV P s d x hp = convV P s d x hp' := by
        have hs := sliceC_congr (v := x) (fun i hi => h i (by simp [idss, hi]))
        unfold convV
        split <;> try rfl
        split <;> try rfl
        rw [hs]
      simp only [act, this]
    | _ :: _ :: _, _ => rfl
  | buildSlice t n parts =>
    have h : ∀ i ∈ idss vs, hp i = hp' i := h
    simp only [act, lows_congr vs _ h, seal_congr h]
  | call c =>
    obtain ⟨cal, args, ats⟩ := c
    have hcon : ∀ f vs', (∀ i ∈ idss vs', hp i = hp' i) → conR G hp nid f vs' = conR G hp' nid f vs' := by
      intro f vs' h
      unfold conR
      split
      · rw [lows_congr vs' _ h, seal_congr h]
      · rfl
    cases cal with
    | invoke x m => rfl
    | builtin b =>
      have hb : bltR P b ats.toList vs hp nid = bltR P b ats.toList vs hp' nid := by
        generalize ats.toList = tl
        unfold bltR
        split <;> try rfl
        rename_i t t' x y
        have h : ∀ i ∈ idss [x, y], hp i = hp' i := h
        rw [appV_congr h]
        simp only [appOk_congr (x := x) (fun i hi => h i (by simp [idss, hi]))]
      cases vs <;> exact hb
    | value x =>
      have h : ∀ i ∈ idss vs, hp i = hp' i := h
      cases x with
      | func f => cases vs <;> exact hcon f _ h
      | _ =>
        cases vs with
        | nil => rfl
        | cons v vs =>
          cases v with
          | fn f a b =>
            refine hcon f _ fun i hi => h i ?_
            have key : ∀ (l m : List V), idss (l ++ m) = idss l ++ idss m := by
              intro l m
              induction l with
              | nil => rfl
              | cons v l ih => simp [idss, ih]
            rw [key, key] at hi
            show i ∈ (idss a ++ idss b) ++ idss vs
            rcases List.mem_append.1 hi with hi | hi
            · rcases List.mem_append.1 hi with hi | hi
              · exact List.mem_append.2 (.inl (List.mem_append.2 (.inl hi)))
              · exact List.mem_append.2 (.inr hi)
            · exact List.mem_append.2 (.inl (List.mem_append.2 (.inr hi)))
          | _ => rfl
  | _ => kernel_rfl
end
end Go.Am
