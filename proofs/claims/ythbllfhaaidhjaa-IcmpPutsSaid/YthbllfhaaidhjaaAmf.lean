/- The abstract machine, sixth part: operations that make no memory, one by one. -/
import Derived.Test.YthbllfhaaidhjaaAme
namespace Go.Am
open Go Go.RowKit Go.Bas
section
variable {ι : Nat → Option Cn} {O : Nat → Prop} {w0 : Zone} {w : World} {hp : Nat → Option Blk} {P : Program}

theorem ofBif {α : Type} {c : Bool} {x : Option α} {b : α} (h : (bif c then x else none) = some b) : c = true ∧ x = some b := by
  cases c
  · cases h
  · exact ⟨rfl, h⟩
/-! ### equality -/
def ints' : List IntKind → List Int → List Value := ints
mutual
def numsV : V → List Int
  | .int _ n => [n]
  | .barr _ l => l.map fun u => (u.toNat : Int)
  | .agg l => numsVs l
  | _ => []
def numsVs : List V → List Int
  | [] => []
  | v :: l => numsV v ++ numsVs l
end
mutual
theorem kinds_rep : ∀ {v : V} {ks : List IntKind} {cs : List Value}, kindsV v = some ks → CRep ι O w v cs → cs = ints ks (numsV v) ∧ (numsV v).length = ks.length
  | .int k n, ks, cs, h, hr => by simp [kindsV] at h; subst h; cases hr; exact ⟨rfl, rfl⟩
  | .barr n l, ks, cs, h, hr => by
    simp [kindsV] at h; subst h
    cases hr with
    | barr hn =>
      subst hn
      refine ⟨?_, by simp [numsV]⟩
      simp only [numsV]
      induction l with
      | nil => rfl
      | cons a l ih => simp only [List.map_cons, List.length_cons, List.replicate_succ, ints, List.zipWith_cons_cons]; rw [show List.map bv l = _ from ih]; rfl
  | .agg l, ks, cs, h, hr => by
    simp [kindsV] at h
    cases hr with | agg hr => exact kinds_reps h hr
  | .bool _, ks, cs, h, hr => by simp [kindsV] at h
  | .str _, ks, cs, h, hr => by simp [kindsV] at h
  | .nils, ks, cs, h, hr => by simp [kindsV] at h
  | .bytes _, ks, cs, h, hr => by simp [kindsV] at h
  | .rows _ _, ks, cs, h, hr => by simp [kindsV] at h
  | .arr _ _ _, ks, cs, h, hr => by simp [kindsV] at h
  | .tup _, ks, cs, h, hr => by simp [kindsV] at h
  | .ref _ _ _ _, ks, cs, h, hr => by simp [kindsV] at h
  | .vref _ _, ks, cs, h, hr => by simp [kindsV] at h
  | .own _ _ _, ks, cs, h, hr => by simp [kindsV] at h
  | .ownv _ _, ks, cs, h, hr => by simp [kindsV] at h
  | .fn _ _ _, ks, cs, h, hr => by simp [kindsV] at h
  | .nil _, ks, cs, h, hr => by simp [kindsV] at h
  | .void, ks, cs, h, hr => by simp [kindsV] at h
  | .undef, ks, cs, h, hr => by simp [kindsV] at h
theorem kinds_reps : ∀ {v : List V} {ks : List IntKind} {cs : List Value}, kindsVs v = some ks → CReps ι O w v cs → cs = ints ks (numsVs v) ∧ (numsVs v).length = ks.length
  | [], ks, cs, h, hr => by simp [kindsVs] at h; subst h; cases hr; exact ⟨rfl, rfl⟩
  | v :: l, ks, cs, h, hr => by
    simp only [kindsVs] at h
    cases h1 : kindsV v with
    | none => rw [h1] at h; cases h
    | some a =>
      cases h2 : kindsVs l with
      | none => rw [h1, h2] at h; cases h
      | some b =>
        rw [h1, h2] at h; injection h with h; subst h
        cases hr with
        | cons p q =>
          obtain ⟨rfl, e1⟩ := kinds_rep h1 p
          obtain ⟨rfl, e2⟩ := kinds_reps h2 q
          exact ⟨by rw [numsVs, ints_app e1], by simp [numsVs, e1, e2]⟩
end
theorem kinds_len : ∀ {v : V} {ks : List IntKind} {cs : List Value}, kindsV v = some ks → CRep ι O w v cs → (numsV v).length = ks.length := fun h hr => (kinds_rep h hr).2
mutual
theorem eqV_kinds : ∀ {x y : V} {b : Bool}, eqV x y = some b → kindsV x = kindsV y
  | .int k n, y, b, h => by
    cases y with
    | int k' m => have h := (ofBif h).1; simp at h; subst h; rfl
    | _ => simp [eqV] at h
  | .barr n l, y, b, h => by
    cases y with
    | barr k' m => have h := (ofBif h).1; simp at h; subst h; rfl
    | _ => simp [eqV] at h
  | .agg l, y, b, h => by
    cases y with
    | agg m => exact eqVs_kinds h
    | _ => simp [eqV] at h
  | .bool _, y, b, h => by cases y <;> simp [eqV] at h <;> simp [kindsV]
  | .str _, y, b, h => by cases y <;> simp [eqV] at h <;> simp [kindsV]
  | .nils, y, b, h => by cases y <;> simp [eqV] at h <;> simp [kindsV]
  | .bytes _, y, b, h => by cases y <;> simp [eqV] at h <;> simp [kindsV]
  | .rows _ _, y, b, h => by cases y <;> simp [eqV] at h <;> simp [kindsV]
  | .arr _ _ _, y, b, h => by cases y <;> simp [eqV] at h <;> simp [kindsV]
  | .tup _, y, b, h => by cases y <;> simp [eqV] at h <;> simp [kindsV]
  | .ref _ _ _ _, y, b, h => by cases y <;> simp [eqV] at h <;> simp [kindsV]
  | .vref _ _, y, b, h => by cases y <;> simp [eqV] at h <;> simp [kindsV]
  | .own _ _ _, y, b, h => by cases y <;> simp [eqV] at h <;> simp [kindsV]
  | .ownv _ _, y, b, h => by cases y <;> simp [eqV] at h <;> simp [kindsV]
  | .fn _ _ _, y, b, h => by cases y <;> simp [eqV] at h <;> simp [kindsV]
  | .nil _, y, b, h => by cases y <;> simp [eqV] at h <;> simp [kindsV]
  | .void, y, b, h => by cases y <;> simp [eqV] at h <;> simp [kindsV]
  | .undef, y, b, h => by cases y <;> simp [eqV] at h <;> simp [kindsV]
theorem eqVs_kinds : ∀ {x y : List V} {b : Bool}, eqVs x y = some b → kindsVs x = kindsVs y
  | [], y, b, h => by
    cases y with
    | nil => rfl
    | cons _ _ => simp [eqVs] at h
  | x :: l, y, b, h => by
    cases y with
    | nil => simp [eqVs] at h
    | cons y m =>
      simp only [eqVs] at h
      cases h1 : eqV x y with
      | none => rw [h1] at h; cases h
      | some p =>
        cases h2 : eqVs l m with
        | none => rw [h1, h2] at h; cases h
        | some q => simp only [kindsVs, eqV_kinds h1, eqVs_kinds h2]
end
mutual
theorem eqV_nums : ∀ {x y : V} {kx : List IntKind} {b : Bool} {xs ys : List Value}, kindsV x = some kx → CRep ι O w x xs → CRep ι O w y ys → eqV x y = some b → b = (numsV x == numsV y)
  | .int k n, y, kx, b, xs, ys, hx, rx, ry, h => by
    cases y with
    | int k' m => have h := (ofBif h).2; injection h with h; subst h; simp [numsV]
    | _ => simp [eqV] at h
  | .barr n l, y, kx, b, xs, ys, hx, rx, ry, h => by
    cases y with
    | barr k' m =>
      have h := (ofBif h).2
      injection h with h; subst h
      simp only [numsV]
      rw [Bool.eq_iff_iff]
      simp only [beq_iff_eq]
      constructor
      · rintro rfl; rfl
      · intro e
        exact (List.map_inj_right (fun a b hab => UInt8.toNat_inj.1 (by omega))).1 e
    | _ => simp [eqV] at h
  | .agg l, y, kx, b, xs, ys, hx, rx, ry, h => by
    cases y with
    | agg m => cases rx with | agg rx => cases ry with | agg ry => exact eqVs_nums hx rx ry h
    | _ => simp [eqV] at h
  | .bool _, y, kx, b, xs, ys, hx, rx, ry, h => by simp [kindsV] at hx
  | .str _, y, kx, b, xs, ys, hx, rx, ry, h => by simp [kindsV] at hx
  | .nils, y, kx, b, xs, ys, hx, rx, ry, h => by simp [kindsV] at hx
  | .bytes _, y, kx, b, xs, ys, hx, rx, ry, h => by simp [kindsV] at hx
  | .rows _ _, y, kx, b, xs, ys, hx, rx, ry, h => by simp [kindsV] at hx
  | .arr _ _ _, y, kx, b, xs, ys, hx, rx, ry, h => by simp [kindsV] at hx
  | .tup _, y, kx, b, xs, ys, hx, rx, ry, h => by simp [kindsV] at hx
  | .ref _ _ _ _, y, kx, b, xs, ys, hx, rx, ry, h => by simp [kindsV] at hx
  | .vref _ _, y, kx, b, xs, ys, hx, rx, ry, h => by simp [kindsV] at hx
  | .own _ _ _, y, kx, b, xs, ys, hx, rx, ry, h => by simp [kindsV] at hx
  | .ownv _ _, y, kx, b, xs, ys, hx, rx, ry, h => by simp [kindsV] at hx
  | .fn _ _ _, y, kx, b, xs, ys, hx, rx, ry, h => by simp [kindsV] at hx
  | .nil _, y, kx, b, xs, ys, hx, rx, ry, h => by simp [kindsV] at hx
  | .void, y, kx, b, xs, ys, hx, rx, ry, h => by simp [kindsV] at hx
  | .undef, y, kx, b, xs, ys, hx, rx, ry, h => by simp [kindsV] at hx
theorem eqVs_nums : ∀ {x y : List V} {kx : List IntKind} {b : Bool} {xs ys : List Value}, kindsVs x = some kx → CReps ι O w x xs → CReps ι O w y ys → eqVs x y = some b → b = (numsVs x == numsVs y)
  | [], y, kx, b, xs, ys, hx, rx, ry, h => by
    cases y <;> simp [eqVs] at h
    subst h; rfl
  | x :: l, y, kx, b, xs, ys, hx, rx, ry, h => by
    cases y with
    | nil => simp [eqVs] at h
    | cons y m =>
      simp only [eqVs] at h
      cases h1 : eqV x y with
      | none => rw [h1] at h; cases h
      | some p =>
        cases h2 : eqVs l m with
        | none => rw [h1, h2] at h; cases h
        | some q =>
          rw [h1, h2] at h; injection h with h; subst h
          simp only [kindsVs] at hx
          cases a1 : kindsV x with
          | none => rw [a1] at hx; cases hx
          | some ka =>
            cases a2 : kindsVs l with
            | none => rw [a1, a2] at hx; cases hx
            | some kb =>
              cases rx with
              | cons r1 r2 =>
                cases ry with
                | cons s1 s2 =>
                  have n1 := kinds_len a1 r1
                  have n2 := kinds_len ((eqV_kinds h1).symm.trans a1) s1
                  rw [eqV_nums a1 r1 s1 h1, eqVs_nums a2 r2 s2 h2, numsVs, numsVs, beq_app (by omega)]
end
theorem eqK_eq : ∀ {a b : List IntKind}, eqK a b = true → a = b
  | [], [], _ => rfl
  | a :: l, b :: m, h => by simp [eqK] at h; rw [h.1, eqK_eq h.2]
  | [], _ :: _, h => by simp [eqK] at h
  | _ :: _, [], h => by simp [eqK] at h
theorem run_eqT {t : TypeId} {x y : V} {b : Bool} {c d : Value} (hx : VRep ι O w x c) (hy : VRep ι O w y d) (h : eqT P t x y = some b) (u v : Operand) :
    ((do eqGuard .eql t u v c d; binOp .eql t c d) : Sem Value).run P w = .ok (.bool b) w ∧ ((do eqGuard .neq t u v c d; binOp .neq t c d) : Sem Value).run P w = .ok (.bool (!b)) w := by
  have key : (∃ p q, x = .bool p ∧ y = .bool q ∧ P.underlying t = some .bool ∧ b = (p == q)) ∨ (∃ ks, flat P depth t = some ks ∧ kindsV x = some ks ∧ kindsV y = some ks ∧ x.isAgg = true ∧ y.isAgg = true ∧ P.eqGuardType P.depth t = false ∧ (match P.underlying t with | some (.struct _) | some (.array _ _) => true | _ => false) = true ∧ eqV x y = some b) := by
    unfold eqT at h
    split at h
    · rename_i p q
      split at h
      · rename_i hu
        injection h with h
        exact .inl ⟨p, q, rfl, rfl, hu, h.symm⟩
      · cases h
    · split at h
      · rename_i ks kx ky h1 h2 h3
        obtain ⟨hq, h⟩ := ofBif h
        simp only [Bool.and_eq_true, Bool.not_eq_true'] at hq
        obtain ⟨⟨⟨⟨⟨a1, a2⟩, a3⟩, a4⟩, a5⟩, a6⟩ := hq
        have e1 := eqK_eq a1
        have e2 := eqK_eq a2
        exact .inr ⟨ks, h1, by rw [e1]; exact h2, by rw [e2]; exact h3, a3, a4, a5, a6, h⟩
      · cases h
  rcases key with ⟨p, q, rfl, rfl, hu, rfl⟩ | ⟨ks, h1, h2, h3, h4, h5, h6, h7, h8⟩
  · cases hx.bool_inv; cases hy.bool_inv
    have hg : ∀ op, (eqGuard op t u v (.bool p) (.bool q)).run P w = .ok () w := by
      intro op; unfold eqGuard; cases op <;> simp
    have he : (Op.equal t (.bool p) (.bool q)).run P w = .ok (p == q) w := run_equalIn_bool' (P := P) w 9999 t p q hu
    have h1 : binOp .eql t (.bool p) (.bool q) = (do pure (.bool (← Op.equal t (.bool p) (.bool q)))) := rfl
    have h2 : binOp .neq t (.bool p) (.bool q) = (do pure (.bool (!(← Op.equal t (.bool p) (.bool q))))) := rfl
    constructor
    · simp only [Sem.run_bind, hg, h1, he, Result.andThen_ok, Sem.run_pure]
    · simp only [Sem.run_bind, hg, h2, he, Result.andThen_ok, Sem.run_pure]
  · obtain ⟨xs, rfl, rx⟩ := hx.agg_inv h4
    obtain ⟨ys, rfl, ry⟩ := hy.agg_inv h5
    obtain ⟨rfl, n1⟩ := kinds_rep h2 rx
    obtain ⟨rfl, n2⟩ := kinds_rep h3 ry
    have hb := eqV_nums h2 rx ry h8
    have hg := fun op => run_eqGuard_agg (P := P) w op t u v (ints ks (numsV x)).toArray (ints ks (numsV y)).toArray h6
    constructor
    · simp only [Sem.run_bind, hg, Result.andThen_ok]
      rw [eql_flat h1 (by decide) h7 n1 n2, hb]
    · simp only [Sem.run_bind, hg, Result.andThen_ok]
      rw [neq_flat h1 (by decide) h7 n1 n2, hb]
      rfl
end
end Go.Am
