/- Part Gf of the proof: laws used by the law of this claim. -/
import Derived.Shelf.Abstract
import Derived.Test.YtbbgkhmlbickpaaDoorGp
import Derived.Test.YtbbgkhmlbickpaaDoorGa
set_option linter.all false
namespace Go.Am
open Go Go.RowKit Go.Bas
section
variable {ι : Nat → Option Cn} {O : Nat → Prop} {w0 : Zone} {w w' : World} {hp : Nat → Option Blk} {P : Program}

theorem VRep.bs {l c} (h : VRep ι O w (.bytes l) c) : ∃ A n k, c = .slice A n k ∧ Bs w A n k l := by
  obtain ⟨A, n, k, h1, h2, _⟩ := h.bytes_inv
  exact ⟨A, n, k, h1, h2⟩
theorem OutRep.int {k n} (h : k = .u8 → 0 ≤ n ∧ n < 256) : OutRep O w w' (.int k n) (.int k n) := .val (.one (.int h) rfl)
theorem OutRep.bool {b} : OutRep O w w' (.bool b) (.bool b) := .val (.one .bool rfl)
theorem RowC.of_own {T A n k l} {ι : Nat → Option Cn} {O : Nat → Prop} {base : Nat} (h : Own w' base T A n k l) : RowC ι O w' n (.int .u8) (.bytes l) (l.map bv) := by
  cases h.1
  exact .bytes
theorem OutRep.row {T A n k l} (h : Own w' w.heap.size T A n k l) : OutRep O w w' (.ownv T (.bytes l)) (.slice A n k) := .own (RowC.of_own h) h.2
/-- one more contract -/
theorem GOk.nil : GOk P [] := ⟨fun _ _ _ h => (by cases h), fun _ _ _ h => (by cases h)⟩
theorem GOk.cons {G : List (Nat × Con)} {f : FuncId} {ps : List Sh} {F : List V → Option (V × Bool)} (h1 : ∀ (args : Array Value) (w : World), (callFunc f args).run P w = .ok (.enter f args) w) (h2 : ∀ vs v, F vs = some (v, true) → SpecV P f vs v) (hG : GOk P G) : GOk P ((f, .val ps F) :: G) := by
  constructor
  · intro f' ps' F' hl
    unfold look at hl
    cases hq : Nat.beq f f' with
    | true =>
      rw [hq] at hl
      have := Nat.eq_of_beq_eq_true hq
      subst this
      injection hl with hl; injection hl with e1 e2
      subst e2
      exact ⟨h1, h2⟩
    | false =>
      rw [hq] at hl
      exact hG.1 _ _ _ hl
  · intro f' T F' hl
    unfold look at hl
    cases hq : Nat.beq f f' with
    | true => rw [hq] at hl; injection hl with hl; cases hl
    | false =>
      rw [hq] at hl
      exact hG.2 _ _ _ hl
theorem LoopsOk.of : ∀ {c : AC}, (∀ x ∈ c.sums, LoopOk P x.1.erase x.2.2.1 x.2.2.2) → (∀ x ∈ c.jmps, JumpOk P x.1.erase x.2.2.1 x.2.2.2.1 x.2.2.2.2) → LoopsOk P c
  | .seq a b, h, h' => ⟨LoopsOk.of (c := a) (fun x hx => h x (List.mem_append_left _ hx)) fun x hx => h' x (List.mem_append_left _ hx), LoopsOk.of (c := b) (fun x hx => h x (List.mem_append_right _ hx)) fun x hx => h' x (List.mem_append_right _ hx)⟩
  | .cond _ a b, h, h' => ⟨LoopsOk.of (c := a) (fun x hx => h x (List.mem_append_left _ hx)) fun x hx => h' x (List.mem_append_left _ hx), LoopsOk.of (c := b) (fun x hx => h x (List.mem_append_right _ hx)) fun x hx => h' x (List.mem_append_right _ hx)⟩
  | .block _ a, h, h' => LoopsOk.of (c := a) h h'
  | .unr _ a, h, h' => LoopsOk.of (c := a) h h'
  | .loop c ts vs g, h, _ => h (c, ts, vs, g) (List.mem_cons_self ..)
  | .scope c rest l _ vs g, h, h' => ⟨LoopsOk.of (c := c) h fun x hx => h' x (List.mem_cons_of_mem _ hx), h' (c, rest, l, vs, g) (List.mem_cons_self ..)⟩
  | .skip, _, _ => trivial
  | .region _ _ _, _, _ => trivial
  | .exit _, _, _ => trivial
  | .ret, _, _ => trivial
  | .label _, _, _ => trivial
  | .goto _, _, _ => trivial
  | .bad _, _, _ => trivial
/-- a function whose loops are summed up -/
theorem AfOk.sums {f : FuncId} {af : AF} {fn : Func} (hf : P.funcs[f]? = some fn) (hname : (fn.name == "runtime.NumGoroutine") = false) (hb : fn.body = some af.ac.erase) (hr : fn.results.toList = af.results) (ht : fn.ntmps = af.n) (hl : LoopsOk P af.ac) : AfOk P f af :=
  ⟨Go.Proofs.enters_of hf hname hb, ⟨fn, hf, hb, hr, ht⟩, hl⟩
/-- no loops -/
def AC.flat : AC → Bool
  | .seq a b => a.flat && b.flat
  | .cond _ a b => a.flat && b.flat
  | .block _ a => a.flat
  | .unr _ a => a.flat
  | .loop _ _ _ _ => false
  | .scope _ _ _ _ _ _ => false
  | _ => true
theorem AC.flat_ok : ∀ {c : AC}, c.flat = true → LoopsOk P c
  | .seq a b, h => by
    have h := (Bool.and_eq_true _ _).mp h
    exact ⟨flat_ok h.1, flat_ok h.2⟩
  | .cond _ a b, h => by
    have h := (Bool.and_eq_true _ _).mp h
    exact ⟨flat_ok h.1, flat_ok h.2⟩
  | .block _ a, h => flat_ok (c := a) h
  | .unr _ a, h => flat_ok (c := a) h
  | .loop _ _ _ _, h => by cases h
  | .scope _ _ _ _ _ _, h => by cases h
  | .label _, _ => trivial
  | .goto _, _ => trivial
  | .skip, _ => trivial
  | .region _ _ _, _ => trivial
  | .exit _, _ => trivial
  | .ret, _ => trivial
  | .bad _, _ => trivial
abbrev AllOk (P : Program) (f : FuncId) (af : AF) : Prop := AfOk P f af
theorem AllOk.flat {f : FuncId} {af : AF} {fn : Func} (hf : P.funcs[f]? = some fn) (hname : (fn.name == "runtime.NumGoroutine") = false) (hb : fn.body = some af.ac.erase) (hr : fn.results.toList = af.results) (ht : fn.ntmps = af.n) (hl : af.ac.flat = true) : AllOk P f af :=
  ⟨Go.Proofs.enters_of hf hname hb, ⟨fn, hf, hb, hr, ht⟩, AC.flat_ok hl⟩
def IOk (P : Program) (I : List (Nat × AF)) : Prop := ∀ f af, look I f = some af → AllOk P f af
theorem IOk.nil : IOk P [] := fun _ _ h => by cases h
theorem IOk.cons {I : List (Nat × AF)} {f : FuncId} {af : AF} (h1 : AllOk P f af) (hI : IOk P I) : IOk P ((f, af) :: I) := by
  intro f' af' hl
  unfold look at hl
  cases hq : Nat.beq f f' with
  | true =>
    rw [hq] at hl
    have := Nat.eq_of_beq_eq_true hq
    subst this
    injection hl with hl
    subst hl
    exact h1
  | false =>
    rw [hq] at hl
    exact hI _ _ hl
def COk (P : Program) (C : List (Nat × (List Nat × (S → Option (Bool × Tr))))) : Prop := ∀ f vs F, look C f = some (vs, F) → (∀ (args : Array Value) (w : World), (callFunc f args).run P w = .ok (.enter f args) w) ∧ RefOk P f vs F
theorem COk.nil : COk P [] := fun _ _ _ h => by cases h
theorem COk.cons {C : List (Nat × (List Nat × (S → Option (Bool × Tr))))} {f : FuncId} {vs : List Nat} {F : S → Option (Bool × Tr)} (h1 : ∀ (args : Array Value) (w : World), (callFunc f args).run P w = .ok (.enter f args) w) (h2 : RefOk P f vs F) (hC : COk P C) : COk P ((f, (vs, F)) :: C) := by
  intro f' vs' F' hl
  unfold look at hl
  cases hq : Nat.beq f f' with
  | true =>
    rw [hq] at hl
    have := Nat.eq_of_beq_eq_true hq
    subst this
    injection hl with hl; injection hl with e1 e2
    subst e1; subst e2
    exact ⟨h1, h2⟩
  | false =>
    rw [hq] at hl
    exact hC _ _ _ hl
theorem XOk.nil : XOk P [] := fun _ _ _ h => by cases h
theorem XOk.cons {X : List (Nat × (List Sh × (List V → PT)))} {f : FuncId} {ps : List Sh} {F : List V → PT} (h1 : ∀ (args : Array Value) (w : World), (callFunc f args).run P w = .ok (.enter f args) w) (h2 : ∀ vs r, PTo (F vs) r → SpecP P f vs r) (hX : XOk P X) : XOk P ((f, (ps, F)) :: X) := by
  intro f' ps' F' hl
  unfold look at hl
  cases hq : Nat.beq f f' with
  | true =>
    rw [hq] at hl
    have := Nat.eq_of_beq_eq_true hq
    subst this
    injection hl with hl; injection hl with e1 e2
    subst e1; subst e2
    exact ⟨h1, h2⟩
  | false =>
    rw [hq] at hl
    exact hX _ _ _ hl
/-- a law: the answer is true -/
theorem SpecV.true {f : FuncId} {vs : List V} (h : SpecV P f vs (.bool true)) {cs : List Value} {w : World} (hv : VReps no (fun _ => False) w vs cs) (hg : LaidW w := by first | assumption | exact LaidW.none rfl) : Calls P f cs.toArray w fun e w' => e = .returned (.bool true) ∧ Below w.heap.size w w' :=
  (h (fun _ => False) w cs (.no hg) hv).mono fun e w' ⟨h1, c, h2, h3⟩ => by
    cases h3 with
    | val h3 => cases h3.bool_inv; exact ⟨h2, h1⟩
end
end Go.Am

namespace Go.Am
open Go Go.RowKit Go.Bas
end Go.Am

namespace Go.Am
open Go Go.RowKit Go.Bas Go.ChangeShapes Go.WideShapes Go.ChangeAt

/- a value is of a shape, its integers within their kinds, its rows no longer than M -/

section
variable {ι : Nat → Option Cn} {O : Nat → Prop} {w : World} {P : Program}
variable {H : Type} {enc : TypeId × Value → H}
end
end Go.Am

namespace Go.Am
open Go Go.RowKit Go.ChangeShapes Go.WideShapes Go.ChangeAt Go.Bas
section
variable {H : Type} {enc : TypeId × Value → H} {P : Program} {w : World}
/-- an argument of each type for a witness -/
def zArg (P : Program) (D : Nat) (t : TypeId) : Value :=
  match shOf P D t with
  | some sh => if sh.isAgg then .agg (zeroC sh).toArray else (zeroC sh).headD Go.undef
  | none => Go.undef
/-! ### what is of a shape -/
end
end Go.Am
