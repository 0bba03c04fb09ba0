/- The abstract machine: what was walked by hand, as contracts. -/
import Derived.Test.YthbllfhaaidhjaaAmp
import Derived.Shelf.Abstract
namespace Go.Am
open Go Go.RowKit Go.Bas
section
variable {ι : Nat → Option Cn} {O : Nat → Prop} {w0 : Zone} {w w' : World} {hp : Nat → Option Blk} {P : Program}

theorem VRep.barr_inv {n l c} (h : VRep ι O w (.barr n l) c) : c = .agg (l.map bv).toArray ∧ l.length = n := by
  obtain ⟨cs, rfl, hc⟩ := h.agg_inv rfl
  cases hc with
  | barr hl => exact ⟨rfl, hl⟩
theorem VRep.bs {l c} (h : VRep ι O w (.bytes l) c) : ∃ A n k, c = .slice A n k ∧ Bs w A n k l := by
  obtain ⟨A, n, k, h1, h2, _⟩ := h.bytes_inv
  exact ⟨A, n, k, h1, h2⟩
theorem OutRep.int {k n} (h : k = .u8 → 0 ≤ n ∧ n < 256) : OutRep O w w' (.int k n) (.int k n) := .val (.one (.int h) rfl)
theorem OutRep.bool {b} : OutRep O w w' (.bool b) (.bool b) := .val (.one .bool rfl)
theorem RowC.of_own {T A n k l} {ι : Nat → Option Cn} {O : Nat → Prop} {base : Nat} (h : Own w' base T A n k l) : RowC ι O w' n (.int .u8) (.bytes l) (l.map bv) := by
  cases h.1
  exact .bytes
theorem OutRep.row {T A n k l} (h : Own w' w.heap.size T A n k l) : OutRep O w w' (.ownv T (.bytes l)) (.slice A n k) := .own (RowC.of_own h) h.2
theorem OutRep.rowOk {T A n k l b} (h : Own w' w.heap.size T A n k l) : OutRep O w w' (.tup [.ownv T (.bytes l), .bool b]) (.tuple #[.slice A n k, .bool b]) :=
  .tup (RowC.of_own h) h.2 (.cons (.one .bool rfl) .nil)
theorem OutRep.intOk {k n b} (h : k = .u8 → 0 ≤ n ∧ n < 256) : OutRep O w w' (.tup [.int k n, .bool b]) (.tuple #[.int k n, .bool b]) :=
  .val (.tup (.cons (.one (.int h) rfl) (.cons (.one .bool rfl) .nil)))
theorem kSame {f : FuncId} {args : Array Value} {V : V} {c : Value} (h : Calls P f args w fun e w' => e = .returned c ∧ w = w') (o : ∀ w', OutRep O w w' V c) : Calls P f args w fun e w' => Below w.heap.size w w' ∧ ∃ c, e = .returned c ∧ OutRep O w w' V c :=
  h.mono fun e w' ⟨h1, h2⟩ => by subst h2; exact ⟨Below.refl _ _, _, h1, o _⟩
theorem kDrew {f : FuncId} {args : Array Value} {V : V} {c : Value} (h : Calls P f args w fun e w' => e = .returned c ∧ ∃ n, w' = w.drewN n) (o : ∀ w', OutRep O w w' V c) : Calls P f args w fun e w' => Below w.heap.size w w' ∧ ∃ c, e = .returned c ∧ OutRep O w w' V c :=
  h.mono fun e w' ⟨h1, h2⟩ => ⟨below_quiet h2, _, h1, o _⟩
theorem kBelow {f : FuncId} {args : Array Value} {V : V} {c : Value} (h : Calls P f args w fun e w' => e = .returned c ∧ Below w.heap.size w w') (o : ∀ w', OutRep O w w' V c) : Calls P f args w fun e w' => Below w.heap.size w w' ∧ ∃ c, e = .returned c ∧ OutRep O w w' V c :=
  h.mono fun e w' ⟨h1, h2⟩ => ⟨h2, _, h1, o _⟩
theorem kOwn {f : FuncId} {args : Array Value} {T : TypeId} {l : List UInt8} (h : Calls P f args w fun e w' => ∃ A n c, e = .returned (.slice A n c) ∧ Own w' w.heap.size T A n c l ∧ Below w.heap.size w w') : Calls P f args w fun e w' => Below w.heap.size w w' ∧ ∃ c, e = .returned c ∧ OutRep O w w' (.ownv T (.bytes l)) c :=
  h.mono fun e w' ⟨A, n, c, h1, h2, h3⟩ => ⟨h3, _, h1, OutRep.row h2⟩
theorem kOwnOk {f : FuncId} {args : Array Value} {T : TypeId} {l : List UInt8} {b : Bool} (h : Calls P f args w fun e w' => ∃ A n c, e = .returned (.tuple #[.slice A n c, .bool b]) ∧ Own w' w.heap.size T A n c l ∧ Below w.heap.size w w') : Calls P f args w fun e w' => Below w.heap.size w w' ∧ ∃ c, e = .returned c ∧ OutRep O w w' (.tup [.ownv T (.bytes l), .bool b]) c :=
  h.mono fun e w' ⟨A, n, c, h1, h2, h3⟩ => ⟨h3, _, h1, OutRep.rowOk h2⟩
/-- one more contract -/
theorem GOk.nil : GOk P [] := fun _ _ _ h => by cases h
theorem GOk.cons {G : List (Nat × Con)} {f : FuncId} {ps : List Sh} {F : List V → Option (V × Bool)} (h1 : ∀ (args : Array Value) (w : World), (callFunc f args).run P w = .ok (.enter f args) w) (h2 : ∀ vs v, F vs = some (v, true) → SpecV P f vs v) (hG : GOk P G) : GOk P ((f, .val ps F) :: G) := by
  intro f' ps' F' hl
  unfold look at hl
  cases hq : Nat.beq f f' with
  | true =>
    rw [hq] at hl
    have := Nat.eq_of_beq_eq_true hq
    subst this
    injection hl with hl; injection hl with e1 e2
    subst e2
    exact ⟨h1, h2⟩
  | false =>
    rw [hq] at hl
    exact hG _ _ _ hl
/-- no loops -/
def AC.flat : AC → Bool
  | .seq a b => a.flat && b.flat
  | .cond _ a b => a.flat && b.flat
  | .block _ a => a.flat
  | .unr _ a => a.flat
  | .loop _ _ _ _ => false
  | _ => true
theorem AC.flat_ok : ∀ {c : AC}, c.flat = true → LoopsOk P c
  | .seq a b, h => by
    have h := (Bool.and_eq_true _ _).mp h
    exact ⟨flat_ok h.1, flat_ok h.2⟩
  | .cond _ a b, h => by
    have h := (Bool.and_eq_true _ _).mp h
    exact ⟨flat_ok h.1, flat_ok h.2⟩
  | .block _ a, h => flat_ok (c := a) h
  | .unr _ a, h => flat_ok (c := a) h
  | .loop _ _ _ _, h => by cases h
  | .skip, _ => trivial
  | .region _ _ _, _ => trivial
  | .exit _, _ => trivial
  | .ret, _ => trivial
  | .bad _, _ => trivial
abbrev AllOk (P : Program) (f : FuncId) (af : AF) : Prop := AfOk P f af
theorem AllOk.flat {f : FuncId} {af : AF} {fn : Func} (hf : P.funcs[f]? = some fn) (hname : (fn.name == "runtime.NumGoroutine") = false) (hb : fn.body = some af.ac.erase) (hr : fn.results.toList = af.results) (ht : fn.ntmps = af.n) (hl : af.ac.flat = true) : AllOk P f af :=
  ⟨Go.Proofs.enters_of hf hname hb, ⟨fn, hf, hb, hr, ht⟩, AC.flat_ok hl⟩
def IOk (P : Program) (I : List (Nat × AF)) : Prop := ∀ f af, look I f = some af → AllOk P f af
theorem IOk.nil : IOk P [] := fun _ _ h => by cases h
theorem IOk.cons {I : List (Nat × AF)} {f : FuncId} {af : AF} (h1 : AllOk P f af) (hI : IOk P I) : IOk P ((f, af) :: I) := by
  intro f' af' hl
  unfold look at hl
  cases hq : Nat.beq f f' with
  | true =>
    rw [hq] at hl
    have := Nat.eq_of_beq_eq_true hq
    subst this
    injection hl with hl
    subst hl
    exact h1
  | false =>
    rw [hq] at hl
    exact hI _ _ hl
def COk (P : Program) (C : List (Nat × (List Nat × (S → Option S)))) : Prop := ∀ f vs F, look C f = some (vs, F) → (∀ (args : Array Value) (w : World), (callFunc f args).run P w = .ok (.enter f args) w) ∧ RefOk P f vs F
theorem COk.nil : COk P [] := fun _ _ _ h => by cases h
theorem COk.cons {C : List (Nat × (List Nat × (S → Option S)))} {f : FuncId} {vs : List Nat} {F : S → Option S} (h1 : ∀ (args : Array Value) (w : World), (callFunc f args).run P w = .ok (.enter f args) w) (h2 : RefOk P f vs F) (hC : COk P C) : COk P ((f, (vs, F)) :: C) := by
  intro f' vs' F' hl
  unfold look at hl
  cases hq : Nat.beq f f' with
  | true =>
    rw [hq] at hl
    have := Nat.eq_of_beq_eq_true hq
    subst this
    injection hl with hl; injection hl with e1 e2
    subst e1; subst e2
    exact ⟨h1, h2⟩
  | false =>
    rw [hq] at hl
    exact hC _ _ _ hl
/-- a law: the answer is true -/
theorem SpecV.true {f : FuncId} {vs : List V} (h : SpecV P f vs (.bool true)) {cs : List Value} {w : World} (hv : VReps no (fun _ => False) w vs cs) : Calls P f cs.toArray w fun e w' => e = .returned (.bool true) ∧ Below w.heap.size w w' :=
  (h (fun _ => False) w cs (fun _ h => h.elim) hv).mono fun e w' ⟨h1, c, h2, h3⟩ => by
    cases h3 with
    | val h3 => cases h3.bool_inv; exact ⟨h2, h1⟩
end
end Go.Am
