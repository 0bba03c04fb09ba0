/- Part Gp of the proof: laws used by the law of this claim. -/
import Derived.Orders
import Derived.KernelRfl
import Derived.LoopN
import Derived.Test.YtbbgkhmlbickpaaDoorGc
set_option linter.all false
namespace Go.Am
open Go Go.RowKit Go.Bas
section
variable {hp hp' : Nat → Option Blk}
end
end Go.Am

namespace Go.Am
open Go Go.RowKit Go.Bas
def effI (it : It) (s : S) : S := ⟨put s.sl it.dst it.v, it.wr ++ s.hp, s.nx + 1, s.ob, s.n⟩
/-- the state when those of p have come up -/
def stN (its : Nat → It) (s0 : S) (p : Nat → Bool) : Nat → S
  | 0 => s0
  | m + 1 => bif p m then effI (its m) (stN its s0 p m) else stN its s0 p m
structure Eqv (s s' : S) : Prop where
  sl : ∀ t, look s.sl t = look s'.sl t
  hp : ∀ id, lookH s.hp id = lookH s'.hp id
  n : s.n = s'.n
section
variable {its : Nat → It} {s0 s s' : S} {p q : Nat → Bool}
theorem Eqv.refl (s : S) : Eqv s s := ⟨fun _ => rfl, fun _ => rfl, rfl⟩
theorem Eqv.trans {s1 s2 s3 : S} (h : Eqv s1 s2) (k : Eqv s2 s3) : Eqv s1 s3 := ⟨fun t => (h.sl t).trans (k.sl t), fun t => (h.hp t).trans (k.hp t), h.n.trans k.n⟩
theorem Eqv.symm (h : Eqv s s') : Eqv s' s := ⟨fun t => (h.sl t).symm, fun t => (h.hp t).symm, h.n.symm⟩
theorem eff_slot {it : It} {t : Nat} : look (effI it s).sl t = if it.dst = some t then some it.v else look s.sl t := look_put
theorem eff_heap {it : It} {id : Nat} : lookH (effI it s).hp id = updH it.wr (lookH s.hp) id := by
  show lookH (it.wr ++ s.hp) id = _
  rw [lookH_append]
theorem Eqv.eff (h : Eqv s s') (it : It) : Eqv (effI it s) (effI it s') := by
  refine ⟨fun t => by rw [eff_slot, eff_slot, h.sl], fun id => ?_, h.n⟩
  rw [eff_heap, eff_heap, show lookH s.hp = lookH s'.hp from funext h.hp]
theorem Eqv.st (h : Eqv s s') : ∀ m, Eqv (stN its s p m) (stN its s' p m)
  | 0 => h
  | m + 1 => by
    simp only [stN]
    cases p m
    · exact Eqv.st h m
    · exact (Eqv.st h m).eff _
end
end Go.Am

namespace Go.Am
open Go Go.RowKit Go.Bas
section
variable {E : Env} {all : List Oper} {R : Type}
/-! ### orders -/
def Closed (all : List Oper) (p : Nat → Bool) : Prop := ∀ j o, p j = true → all[j]? = some o → ∀ i ∈ dirs o, p i = true
end
end Go.Am

namespace Go.Am
open Go Go.RowKit Go.Bas
section
variable {E : Env} {all : List Oper} {ι : Nat → Option Cn} {O : Nat → Prop} {w0 : Zone} {w : World} {a : Act} {its : Nat → It} {s0 : S} {n : Nat} {p : Nat → Bool}
theorem VRep.void_inv {X : Nat → Prop} {c : Value} (h : VRep ι X w .void c) : c = Go.undef := by
  cases h with
  | void => rfl
  | one h _ => cases h
  | agg h _ => cases h
theorem Sim.getD_get {s : S} (h : Sim ι O w0 s a w) {t : Nat} (ht : t < s.n) : a.tmps[t]? = some (a.tmps.getD t Go.undef) := by
  have : t < a.tmps.size := by rw [h.size]; exact ht
  simp [Array.getD_eq_getD_getElem?, Array.getElem?_eq_getElem this]
theorem Sim.yields {s : S} (h : Sim ι O w0 s a w) {j t : Nat} (hj : (nthL all j).bind (·.dst) = some t) :
    (∀ b, look s.sl t = some (.bool b) → yielded all.toArray a.tmps j = some b) ∧ (look s.sl t = some .void → yielded all.toArray a.tmps j = none) := by
  have hd : (all.toArray[j]?).bind (·.dst) = some t := by rw [← hj, nthL_eq]; simp
  constructor
  · intro b hb
    obtain ⟨h1, h2⟩ := h.slots t _ hb
    have := h2.bool_inv
    unfold yielded
    rw [hd, Option.bind_some, h.getD_get h1, this]
  · intro hb
    obtain ⟨h1, h2⟩ := h.slots t _ hb
    have hu := h2.void_inv
    unfold yielded
    rw [hd, Option.bind_some, h.getD_get h1, hu]
    rfl
def add (p : Nat → Bool) (i : Nat) : Nat → Bool := fun j => p j || Nat.beq j i
/-! ### all orders -/
/-! ### a stretch of the operations -/
end
end Go.Am

namespace Go.Am
open Go Go.RowKit Go.Bas
section
variable {R : Type} {E : Env} {inl : AF → List V → S → (V → S → Option R) → Option R} {kp : List PanicEntry → S → Option R}
variable {ι : Nat → Option Cn} {O : Nat → Prop} {w0 : Zone} {w : World} {s : S} {a : Act}
theorem Nxt.refl (h : Sim ι O w0 s a w) : Nxt ι O w0 s w s a w := ⟨ι, h, Ext.refl⟩
/-! ### such a region with calls that are walked into -/
/-- code does what it is said to do -/
theorem Nxt.after {ι' : Nat → Option Cn} {s' s2 : S} {a2 : Act} {w' w2 : World} (h2 : Ext ι ι' (XS ι O s) (XS ι' O s') w w') (h : Nxt ι' O w0 s' w' s2 a2 w2) : Nxt ι O w0 s w s2 a2 w2 := by
  obtain ⟨ι2, h3, h4⟩ := h
  exact ⟨ι2, h3, h2.trans h4⟩
/-! ### functions -/
theorem RowC.any {ι' : Nat → Option Cn} {X : Nat → Prop} {n e v ds} (h : RowC ι X w n e v ds) : RowC ι' X w n e v ds := by
  cases h with
  | bytes => exact .bytes
  | rows he hr => exact .rows he (CReps.any_of (fun p q => CRep.any p q) hr he)
end
end Go.Am

namespace Go.Am
open Go Go.RowKit Go.Bas
section
variable {ι : Nat → Option Cn} {O : Nat → Prop} {w0 : Zone} {w : World} {s : S} {a : Act}
/-! ### loops -/
theorem least (p : Nat → Prop) (h : ∃ n, p n) : ∃ n, p n ∧ ∀ m, p m → n ≤ m := by
  obtain ⟨n, hn⟩ := h
  induction n using Nat.strongRecOn with
  | _ n ih =>
    by_cases hq : ∃ m, m < n ∧ p m
    · obtain ⟨m, h1, h2⟩ := hq; exact ih m h1 h2
    · exact ⟨n, hn, fun m hm => by
        rcases Nat.lt_or_ge m n with h | h
        · exact absurd ⟨m, h, hm⟩ hq
        · exact h⟩
/-- a state of which less is said -/
structure Covers (s st : S) : Prop where
  n : st.n = s.n
  nx : st.nx = s.nx
  ob : st.ob = true
  sl : ∀ t v, look st.sl t = some v → look s.sl t = some v
  hp : ∀ id k, lookH st.hp id = some k → lookH s.hp id = some k
theorem Covers.one {s : S} {n k : Nat} {sl : List (Nat × V)} {hp : List (Nat × Option Blk)} (hn : s.n = n) (hk : s.nx = k) (hsl : ∀ p ∈ sl, look s.sl p.1 = some p.2) (hhp : ∀ p ∈ hp, ∀ b, p.2 = some b → lookH s.hp p.1 = some b) : Covers s ⟨sl, hp, k, true, n⟩ := by
  refine ⟨hn.symm, hk.symm, rfl, fun t v hv => hsl _ (look_mem hv), fun id b hb => ?_⟩
  have : ∀ hp : List (Nat × Option Blk), lookH hp id = some b → (id, some b) ∈ hp := by
    intro hp
    induction hp with
    | nil => intro h; cases h
    | cons x r ih =>
      obtain ⟨y, v⟩ := x
      intro h
      simp only [lookH] at h
      cases hq : Nat.beq y id with
      | true => rw [hq] at h; have := Nat.eq_of_beq_eq_true hq; subst this; simp only [cond_true] at h; subst h; simp
      | false => rw [hq] at h; exact List.mem_cons_of_mem _ (ih h)
  exact hhp _ (this hp hb) b rfl
end
end Go.Am
