/- Part Gc of the proof: laws used by the law of this claim. -/
import Derived.ScopeJumps
import Derived.Test.YtbbgkhmlbickpaaDoorGb
set_option linter.all false
namespace Go.Am
open Go Go.RowKit Go.Bas
section
variable {ι : Nat → Option Cn} {O : Nat → Prop} {w0 : Zone} {w : World} {hp : Nat → Option Blk} {P : Program}
theorem RowC.ones {X : Nat → Prop} {n : Nat} {e : Sh} {v : V} {ds : List Value} (h : RowC ι X w n e v ds) : ∀ u ∈ ds, u.oneCell' = true := by
  cases h with
  | bytes => exact bv_one _
  | rows he hr => exact CReps.ones_of (fun a b => CRep.ones a b) hr he
/-! ### stores into rows -/
/-! ### copies -/
end
end Go.Am

namespace Go.Am
open Go Go.RowKit Go.Bas
section
variable {ι : Nat → Option Cn} {O : Nat → Prop} {w0 : Zone} {w : World} {hp : Nat → Option Blk} {P : Program}

/-! ### conversions, least and greatest -/
/-! ### built values -/
/-! ### rows that are made -/
end
end Go.Am

namespace Go.Am
open Go Go.RowKit Go.Bas
section
variable {ι : Nat → Option Cn} {O : Nat → Prop} {w0 : Zone} {w : World} {hp : Nat → Option Blk} {P : Program} {X : Nat → Prop}
/-! ### the operations -/
end
end Go.Am

namespace Go.Am
open Go Go.RowKit Go.Bas
section
variable {ι : Nat → Option Cn} {O : Nat → Prop} {w0 : Zone} {w : World} {hp : Nat → Option Blk} {P : Program}
end
end Go.Am

namespace Go.Am
open Go Go.RowKit Go.Bas
/-! ### code -/
inductive Ex where
  | normal
  | exit (id : Nat)
  | ret
  | goto (l : Nat)
  | pan (ch : List PanicEntry)
/-- what a function that may give up comes to -/
inductive PT where
  | val (v : V)
  | pan (ch : List PanicEntry)
  | br (b : Bool) (x y : PT)
  | no
inductive Tr where
  | leaf (e : Ex) (s : S)
  | br (b : Bool) (x y : Tr)
/-- what is said of a loop: it is walked round by round; or: the slots that live on, the numbers that stay, what it comes to -/
inductive An where
  | unr (n : Nat)
  | sum (ts vs : List Nat) (g : S → Option (Bool × Tr))
  | jmp (l : Nat) (ts vs : List Nat) (g : S → Option (Bool × Tr))
/-- code whose loops bear what they come to -/
inductive AC where
  | skip
  | region (id : Nat) (ops : List Oper) (draw : Bool)
  | seq (a b : AC)
  | cond (c : Operand) (x y : AC)
  | block (id : Nat) (c : AC)
  | loop (c : AC) (ts vs : List Nat) (g : S → Option (Bool × Tr))
  | unr (n : Nat) (c : AC)
  | scope (c rest : AC) (l : Nat) (ts vs : List Nat) (g : S → Option (Bool × Tr))
  | label (l : Nat)
  | goto (l : Nat)
  | exit (id : Nat)
  | ret
  | bad (c : Code)
def AC.erase : AC → Code
  | .skip => .skip
  | .region id ops d => .region id ops.toArray d
  | .seq a b => .seq a.erase b.erase
  | .cond c x y => .cond c x.erase y.erase
  | .block id c => .block id c.erase
  | .loop c _ _ _ => .loop c.erase
  | .unr _ c => .loop c.erase
  | .scope c _ _ _ _ _ => .scope c.erase
  | .label l => .label l
  | .goto l => .goto l
  | .exit id => .exit id
  | .ret => .ret
  | .bad c => c
/-! ### a state with few slots, its numbers counted anew -/
def idxN : List Nat → Nat → Option Nat
  | [], _ => none
  | x :: l, i => bif Nat.beq x i then some 0 else match idxN l i with
    | some j => some (j + 1)
    | none => none
mutual
def renV (ρ : Nat → Option Nat) : V → Option V
  | .ref id p off sh => match ρ id with
    | some j => some (.ref j p off sh)
    | none => none
  | .own id n sh => match ρ id with
    | some j => some (.own j n sh)
    | none => none
  | .win id p off lo n c sh => match ρ id with
    | some j => some (.win j p off lo n c sh)
    | none => none
  | .agg l => match renVs ρ l with
    | some l' => some (.agg l')
    | none => none
  | .int k n => some (.int k n)
  | .bool b => some (.bool b)
  | .str l => some (.str l)
  | .nils => some .nils
  | .bytes l => some (.bytes l)
  | .rows e l => some (.rows e l)
  | .barr n l => some (.barr n l)
  | .arr e n l => some (.arr e n l)
  | .vref s v => some (.vref s v)
  | .nil k => some (.nil k)
  | .void => some .void
  | .undef => some .undef
  | .fn f a b => match renVs ρ a with
    | some a' => match renVs ρ b with
      | some b' => some (.fn f a' b')
      | none => none
    | none => none
  | .ifc t v => match renV ρ v with
    | some v' => some (.ifc t v')
    | none => none
  | .mv m t v => match renV ρ v with
    | some v' => some (.mv m t v')
    | none => none
  | .avs id n e => match ρ id with
    | some j => some (.avs j n e)
    | none => none
  | .tup l => match renVs ρ l with
    | some l' => some (.tup l')
    | none => none
  | _ => none
def renVs (ρ : Nat → Option Nat) : List V → Option (List V)
  | [] => some []
  | v :: l => match renV ρ v with
    | some x => match renVs ρ l with
      | some y => some (x :: y)
      | none => none
    | none => none
end
def renB (ρ : Nat → Option Nat) : Blk → Option Blk
  | .var sh v => match renV ρ v with
    | some v' => some (.var sh v')
    | none => none
  | b => some b
def renS (ρ : Nat → Option Nat) : List (Nat × V) → Option (List (Nat × V))
  | [] => some []
  | (t, v) :: r => match renV ρ v with
    | some x => match renS ρ r with
      | some l => some ((t, x) :: l)
      | none => none
    | none => none
/-- the numbers vs are there -/
def varsOk (s : S) : List Nat → Bool
  | [] => true
  | v :: r => (match lookH s.hp v with | some _ => true | none => false) && varsOk s r
def isIn (x : Nat) : List Nat → Bool
  | [] => false
  | y :: l => Nat.beq x y || isIn x l
def backR (L vs : List Nat) (nx j : Nat) : Option Nat := bif isIn j vs then nthL L j else some (nx + j)
def backB (ρ : Nat → Option Nat) : List (Nat × Option Blk) → Option (List (Nat × Option Blk))
  | [] => some []
  | (j, b) :: r => match ρ j with
    | some i => match b with
      | some k => match renB ρ k with
        | some k' => match backB ρ r with
          | some l => some ((i, some k') :: l)
          | none => none
        | none => none
      | none => match backB ρ r with
        | some l => some ((i, none) :: l)
        | none => none
    | none => none
/-- the small state s2 is what becomes of the part of s with the numbers L -/
def back (L vs : List Nat) (s s2 : S) : Option S :=
  match renS (backR L vs s.nx) s2.sl with
  | some sl => match backB (backR L vs s.nx) s2.hp with
    | some hp => some ⟨sl, hp ++ (L.map (fun i => (i, none)) ++ s.hp), s.nx + s2.nx, true, s2.n⟩
    | none => none
  | none => none
structure AF where
  ac : AC
  results : List ResultVar
  rty : List (Sh × TypeId)
  n : Nat

structure Env where
  P : Program
  G : List (Nat × Con)
  I : List (Nat × AF)
  C : List (Nat × (List Nat × (S → Option (Bool × Tr))))
  X : List (Nat × (List Sh × (List V → PT)))

section
variable {R : Type}
def put (sl : List (Nat × V)) (d : Option Nat) (v : V) : List (Nat × V) :=
  match d with
  | some t => (t, v) :: sl
  | none => sl
def dstOk (n : Nat) (d : Option Nat) : Bool :=
  match d with
  | some t => Nat.blt t n
  | none => true
def slots : Nat → List V → List (Nat × V)
  | _, [] => []
  | i, v :: l => (i, v) :: slots (i + 1) l
def skipO (o : Oper) (s : S) : S := { s with sl := put s.sl o.dst .void, nx := s.nx + 1 }
/-! ### regions that draw their order -/
/-- what an operation came to: where it writes, what it looked at -/
structure It where
  dst : Option Nat
  v : V
  wr : List (Nat × Option Blk)
  rd : List Nat
  tch : List Nat
  deriving Inhabited
/-- whom an operation waits for -/
def dirs (o : Oper) : List Nat := (o.after.toList.filter fun e => Region.binds .any e).map (·.on)
/- the same in bits: of each who came ahead the mask of whom it waits for, the last first -/
/-! ### regions that draw their order, with calls that are walked into: such a call has a place of its own in every order -/
/-- the loops that are summed up -/
def AC.sums : AC → List (AC × List Nat × List Nat × (S → Option (Bool × Tr)))
  | .seq a b => a.sums ++ b.sums
  | .cond _ a b => a.sums ++ b.sums
  | .block _ a => a.sums
  | .unr _ a => a.sums
  | .scope a _ _ _ _ _ => a.sums
  | .loop c ts vs g => (c, ts, vs, g) :: c.sums
  | _ => []
/-- the labels that are jumped back to -/
def AC.jmps : AC → List (AC × AC × Nat × List Nat × (S → Option (Bool × Tr)))
  | .seq a b => a.jmps ++ b.jmps
  | .cond _ a b => a.jmps ++ b.jmps
  | .block _ a => a.jmps
  | .unr _ a => a.jmps
  | .loop c _ _ _ => c.jmps
  | .scope c rest l _ vs g => (c, rest, l, vs, g) :: c.jmps
  | _ => []
end
end Go.Am

namespace Go.Am
open Go Go.RowKit Go.Bas
def XS (ι : Nat → Option Cn) (O : Nat → Prop) (s : S) : Nat → Prop := Ex1 ι (lookH s.hp) O
structure MSim (ι : Nat → Option Cn) (O : Nat → Prop) (w0 : Zone) (s : S) (w : World) : Prop where
  mem : HSim ι O w0 (lookH s.hp) w
  fresh : ∀ id, s.nx ≤ id → ι id = none
structure Sim (ι : Nat → Option Cn) (O : Nat → Prop) (w0 : Zone) (s : S) (a : Act) (w : World) : Prop extends MSim ι O w0 s w where
  size : a.tmps.size = s.n
  slots : ∀ t v, look s.sl t = some v → t < s.n ∧ VRep ι (XS ι O s) w v (a.tmps.getD t Go.undef)
  defers : a.defers = []
/-- as Ext, but of the numbers in p alone -/
structure ExtP (p : Nat → Prop) (ι ι' : Nat → Option Cn) (O O' : Nat → Prop) (w w' : World) : Prop where
  size : w.heap.size ≤ w'.heap.size
  io : ∀ id c, p id → ι id = some c → ι' id = some c
  same : ∀ b, b < w.heap.size → ¬ O b → w'.heap[b]? = w.heap[b]?
  own : ∀ b, O' b → O b ∨ w.heap.size ≤ b
theorem Ext.part {ι ι' : Nat → Option Cn} {O O' : Nat → Prop} {w w' : World} (h : Ext ι ι' O O' w w') (p : Nat → Prop) : ExtP p ι ι' O O' w w' := ⟨h.size, fun id c _ e => h.io id c e, h.same, h.own⟩
theorem ExtP.trans {p : Nat → Prop} {ι ι' ι'' : Nat → Option Cn} {O O' O'' : Nat → Prop} {w w' w'' : World} (h : ExtP p ι ι' O O' w w') (k : ExtP p ι' ι'' O' O'' w' w'') : ExtP p ι ι'' O O'' w w'' :=
  ⟨Nat.le_trans h.size k.size, fun id c hl e => k.io id c hl (h.io id c hl e),
   fun b hb ho => (k.same b (Nat.lt_of_lt_of_le hb h.size) (fun h' => (h.own b h').elim ho (by omega))).trans (h.same b hb ho),
   fun b hb => (k.own b hb).elim (h.own b) (fun h' => .inr (Nat.le_trans h.size h'))⟩
def Nxt (ι : Nat → Option Cn) (O : Nat → Prop) (w0 : Zone) (s : S) (w : World) (s' : S) (a' : Act) (w' : World) : Prop :=
  ∃ ι', Sim ι' O w0 s' a' w' ∧ Ext ι ι' (XS ι O s) (XS ι' O s') w w'
section
variable {ι : Nat → Option Cn} {O : Nat → Prop} {w0 : Zone} {w : World} {s : S} {a : Act}
def ιL (ι : Nat → Option Cn) (L : List Nat) : Nat → Option Cn := fun j => (L[j]?).bind ι
theorem idxN_spec : ∀ {L : List Nat} {i j : Nat}, idxN L i = some j → L[j]? = some i
  | x :: l, i, j, h => by
    simp only [idxN] at h
    cases hq : Nat.beq x i with
    | true => rw [hq] at h; injection h with h; subst h; simp [Nat.eq_of_beq_eq_true hq]
    | false =>
      rw [hq] at h
      simp only [cond_false] at h
      split at h
      · rename_i j' hj
        injection h with h; subst h
        simpa using idxN_spec hj
      · cases h
theorem ιL_of {L : List Nat} {i j : Nat} (h : idxN L i = some j) : ιL ι L j = ι i := by
  unfold ιL; rw [idxN_spec h]; rfl
/-- numbers turned into others that stand for the same -/
def Ren (ρ : Nat → Option Nat) (ι ι' : Nat → Option Cn) : Prop := ∀ i j, ρ i = some j → ι' j = ι i
theorem RefTo.ren {ρ : Nat → Option Nat} {ι' : Nat → Option Cn} (hρ : Ren ρ ι ι') {i j : Nat} {p : List Step} {off : Nat} {sh : Sh} {g : Nat} (h : ρ i = some j) (hr : RefTo ι i p off sh g) : RefTo ι' j p off sh g := by
  rcases hr with ⟨s0, h1, h2⟩ | ⟨n, c, T, e, h1, h2, h3⟩
  · exact .inl ⟨s0, by rw [hρ _ _ h]; exact h1, h2⟩
  · exact .inr ⟨n, c, T, e, by rw [hρ _ _ h]; exact h1, h2, h3⟩
theorem WinTo.ren {ρ : Nat → Option Nat} {ι' : Nat → Option Cn} (hρ : Ren ρ ι ι') {i j : Nat} {p : List Step} {off lo n c k : Nat} {sh : Sh} {g : Nat} (h : ρ i = some j) (hr : WinTo ι i p off lo n c k sh g) : WinTo ι' j p off lo n c k sh g := by
  rcases hr with ⟨r, N, o, h1, h2⟩ | ⟨N, cc, T, h1, h2⟩
  · exact .inl ⟨r, N, o, h1.ren hρ h, h2⟩
  · exact .inr ⟨N, cc, T, by rw [hρ _ _ h]; exact h1, h2⟩
theorem Ren.idx {L : List Nat} : Ren (idxN L) ι (ιL ι L) := fun _ _ h => ιL_of h
theorem no_to {X Y : Nat → Prop} {ι' : Nat → Option Cn} (h : ∀ b, Y b → X b) : Ext no ι' X Y w w := Ext.mk (Nat.le_refl _) (fun _ _ e => by cases e) (fun _ _ _ => rfl) (fun b hb => .inl (h b hb))
mutual
theorem ren_rep {ρ : Nat → Option Nat} {ι' : Nat → Option Cn} (hρ : Ren ρ ι ι') {X Y : Nat → Prop} (hXY : ∀ b, Y b → X b) : ∀ (v : V) {v' : V}, renV ρ v = some v' → (∀ {cs}, CRep ι X w v cs → CRep ι' Y w v' cs) ∧ v'.isAgg = v.isAgg
  | .ref id p off sh, v', h => by
    simp only [renV] at h
    split at h
    · rename_i j hj
      injection h with h; subst h
      exact ⟨fun hr => by cases hr with | ref hr => exact .ref (hr.ren hρ hj), rfl⟩
    · cases h
  | .own id n sh, v', h => by
    simp only [renV] at h
    split at h
    · rename_i j hj
      injection h with h; subst h
      exact ⟨fun hr => by cases hr with | own hr hA hc => exact .own (by rw [hρ _ _ hj]; exact hr) hA hc, rfl⟩
    · cases h
  | .win id p off lo n c sh, v', h => by
    simp only [renV] at h
    split at h
    · rename_i j hj
      injection h with h; subst h
      exact ⟨fun hr => by cases hr with | win h1 h2 h3 => exact .win h1 h2 fun h0 => (h3 h0).elim fun g hg => ⟨g, hg.1, hg.2.ren hρ hj⟩, rfl⟩
    · cases h
  | .agg l, v', h => by
    simp only [renV] at h
    split at h
    · rename_i l' hl
      injection h with h; subst h
      exact ⟨fun hr => by cases hr with | agg hr => exact .agg ((rens_rep hρ hXY l hl).1 hr), rfl⟩
    · cases h
  | .fn f x y, v', h => by
    simp only [renV] at h
    split at h
    · rename_i x' hx
      split at h
      · rename_i y' hy
        injection h with h; subst h
        exact ⟨fun hr => by cases hr with | fn p q => exact .fn ((rens_rep hρ hXY x hx).2 p) ((rens_rep hρ hXY y hy).2 q), rfl⟩
      · cases h
    · cases h
  | .ifc t u, v', h => by
    simp only [renV] at h
    split at h
    · rename_i u' hu
      injection h with h; subst h
      exact ⟨fun hr => by cases hr with | ifc p => exact .ifc ((ren_rep hρ hXY u hu).1 p), rfl⟩
    · cases h
  | .mv m t u, v', h => by
    simp only [renV] at h
    split at h
    · rename_i u' hu
      injection h with h; subst h
      exact ⟨fun hr => by cases hr with | mv p => exact .mv ((ren_rep hρ hXY u hu).1 p), rfl⟩
    · cases h
  | .avs id n e, v', h => by
    simp only [renV] at h
    split at h
    · rename_i j hj
      injection h with h; subst h
      exact ⟨fun hr => by cases hr with | avs hr => exact .avs (by rw [hρ _ _ hj]; exact hr), rfl⟩
    · cases h
  | .int k n, v', h => by injection h with h; subst h; exact ⟨fun hr => by cases hr with | int h => exact .int h, rfl⟩
  | .bool b, v', h => by injection h with h; subst h; exact ⟨fun hr => by cases hr; exact .bool, rfl⟩
  | .str b, v', h => by injection h with h; subst h; exact ⟨fun hr => by cases hr; exact .str, rfl⟩
  | .nils, v', h => by injection h with h; subst h; exact ⟨fun hr => by cases hr; exact .nils, rfl⟩
  | .bytes l, v', h => by injection h with h; subst h; exact ⟨fun hr => (row_any rfl (ι' := no) hr).ext (no_to hXY), rfl⟩
  | .rows e l, v', h => by injection h with h; subst h; exact ⟨fun hr => (row_any rfl (ι' := no) hr).ext (no_to hXY), rfl⟩
  | .barr n l, v', h => by injection h with h; subst h; exact ⟨fun hr => by cases hr with | barr h => exact .barr h, rfl⟩
  | .arr e n l, v', h => by injection h with h; subst h; exact ⟨fun hr => (CRep.any (s := .arr n e) (ι' := no) (by simp [isR, Sh.beq_self]) hr).ext (no_to hXY), rfl⟩
  | .vref sh u, v', h => by
    injection h with h; subst h
    exact ⟨fun hr => by cases hr with | vref h1 h2 h3 h4 h5 => exact .vref h1 ((CRep.any (ι' := no) h1 h2).ext (no_to hXY)) (fun hy => h3 (hXY _ hy)) h4 h5, rfl⟩
  | .nil k, v', h => by
    injection h with h; subst h
    refine ⟨fun hr => ?_, rfl⟩
    cases hr
    · exact .nilp
    · exact .nilf
    · exact .nili
    · exact .nilm
  | .void, v', h => by injection h with h; subst h; exact ⟨fun hr => (by cases hr), rfl⟩
  | .undef, v', h => by injection h with h; subst h; exact ⟨fun hr => (by cases hr), rfl⟩
  | .tup l, v', h => by
    simp only [renV] at h
    split at h
    · rename_i l' hl
      injection h with h; subst h
      exact ⟨fun hr => (by cases hr), rfl⟩
    · cases h
  | .ownv _ _, v', h => by cases h
theorem rens_rep {ρ : Nat → Option Nat} {ι' : Nat → Option Cn} (hρ : Ren ρ ι ι') {X Y : Nat → Prop} (hXY : ∀ b, Y b → X b) : ∀ (v : List V) {v' : List V}, renVs ρ v = some v' → (∀ {cs}, CReps ι X w v cs → CReps ι' Y w v' cs) ∧ (∀ {cs}, VReps ι X w v cs → VReps ι' Y w v' cs)
  | [], v', h => by
    injection h with h; subst h
    exact ⟨fun hr => by cases hr; exact .nil, fun hr => by cases hr; exact .nil⟩
  | v :: l, v', h => by
    simp only [renVs] at h
    split at h
    · rename_i x hx
      split at h
      · rename_i y hy
        injection h with h; subst h
        have h1 := ren_rep hρ hXY v hx
        have h2 := rens_rep hρ hXY l hy
        refine ⟨fun hr => by cases hr with | cons p q => exact .cons (h1.1 p) (h2.1 q), fun hr => ?_⟩
        cases hr with
        | cons p q =>
          refine .cons ?_ (h2.2 q)
          cases p with
          | one c d => exact .one (h1.1 c) (h1.2.trans d)
          | agg c d => exact .agg (h1.1 c) (h1.2.trans d)
          | tup c =>
            simp only [renV] at hx
            split at hx
            · rename_i l' hl
              injection hx with hx; subst hx
              exact .tup ((rens_rep hρ hXY _ hl).2 c)
            · cases hx
          | void => injection hx with hx; subst hx; exact .void
          | undef => injection hx with hx; subst hx; exact .undef
      · cases h
    · cases h
end
theorem renV_rep {ρ : Nat → Option Nat} {ι' : Nat → Option Cn} (hρ : Ren ρ ι ι') {X Y : Nat → Prop} (hXY : ∀ b, Y b → X b) {v v' : V} {c : Value} (h : renV ρ v = some v') (hr : VRep ι X w v c) : VRep ι' Y w v' c := by
  have := (rens_rep (ι := ι) (w := w) hρ hXY [v] (v' := [v']) (by simp only [renVs, h])).2 (.cons hr .nil)
  exact this.one_inv.elim fun c' h => by
    obtain ⟨h1, h2⟩ := h
    injection h1 with h1
    subst h1
    exact h2
theorem look_mem : ∀ {l : List (Nat × V)} {t : Nat} {v : V}, look l t = some v → (t, v) ∈ l
  | (x, u) :: l, t, v, h => by
    simp only [look] at h
    cases hq : Nat.beq x t with
    | true => rw [hq] at h; injection h with h; subst h; rw [Nat.eq_of_beq_eq_true hq]; simp
    | false => rw [hq] at h; exact List.mem_cons_of_mem _ (look_mem h)
theorem renB_view {ρ : Nat → Option Nat} {k b : Blk} (h : renB ρ k = some b) : isView b = isView k := by
  cases k <;> simp only [renB] at h
  · split at h
    · injection h with h; subst h; rfl
    · cases h
  · injection h with h; subst h; rfl
  · injection h with h; subst h; rfl
mutual
theorem ren_isSh {ρ : Nat → Option Nat} : ∀ (v : V) {v' : V} {sh : Sh}, renV ρ v = some v' → isSh sh v = true → isSh sh v' = true
  | .ref id p off s, v', sh, h, hs => by
    simp only [renV] at h
    split at h
    · injection h with h; subst h
      cases sh with
      | other k => cases k <;> exact hs
      | _ => exact hs
    · cases h
  | .own id n s, v', sh, h, hs => by
    simp only [renV] at h
    split at h
    · injection h with h; subst h
      cases sh with
      | other k => cases k <;> exact hs
      | _ => exact hs
    · cases h
  | .win id p off lo n c s, v', sh, h, hs => by
    simp only [renV] at h
    split at h
    · injection h with h; subst h
      cases sh with
      | other k => cases k <;> exact hs
      | _ => exact hs
    · cases h
  | .agg l, v', sh, h, hs => by
    simp only [renV] at h
    split at h
    · rename_i l' hl
      injection h with h; subst h
      obtain ⟨ss, rfl⟩ : ∃ ss, sh = .agg ss := by
        cases sh with
        | agg ss => exact ⟨ss, rfl⟩
        | other k => cases k <;> simp [isSh] at hs
        | _ => simp [isSh] at hs
      exact rens_isSh l hl hs
    · cases h
  | .fn f x y, v', sh, h, hs => by
    simp only [renV] at h
    split at h
    · split at h
      · injection h with h; subst h
        cases sh with
        | other k => cases k <;> exact hs
        | _ => exact hs
      · cases h
    · cases h
  | .ifc t u, v', sh, h, hs => by
    simp only [renV] at h
    split at h
    · injection h with h; subst h
      cases sh with
      | other k => cases k <;> exact hs
      | _ => exact hs
    · cases h
  | .mv m t u, v', sh, h, hs => by
    simp only [renV] at h
    split at h
    · injection h with h; subst h
      cases sh with
      | other k => cases k <;> exact hs
      | _ => exact hs
    · cases h
  | .avs id n e, v', sh, h, hs => by
    simp only [renV] at h
    split at h
    · injection h with h; subst h
      cases sh with
      | other k => cases k <;> exact hs
      | _ => exact hs
    · cases h
  | .int k n, v', sh, h, hs => by injection h with h; subst h; exact hs
  | .bool b, v', sh, h, hs => by injection h with h; subst h; exact hs
  | .str b, v', sh, h, hs => by injection h with h; subst h; exact hs
  | .nils, v', sh, h, hs => by injection h with h; subst h; exact hs
  | .bytes l, v', sh, h, hs => by injection h with h; subst h; exact hs
  | .rows e l, v', sh, h, hs => by injection h with h; subst h; exact hs
  | .barr n l, v', sh, h, hs => by injection h with h; subst h; exact hs
  | .arr e n l, v', sh, h, hs => by injection h with h; subst h; exact hs
  | .vref s u, v', sh, h, hs => by injection h with h; subst h; exact hs
  | .nil k, v', sh, h, hs => by injection h with h; subst h; exact hs
  | .void, v', sh, h, hs => by injection h with h; subst h; exact hs
  | .undef, v', sh, h, hs => by injection h with h; subst h; exact hs
  | .tup l, v', sh, h, hs => by
    simp only [renV] at h
    split at h
    · injection h with h; subst h
      cases sh with
      | other k => cases k <;> simp [isSh] at hs
      | _ => simp [isSh] at hs
    · cases h
  | .ownv _ _, v', sh, h, hs => by cases h
theorem rens_isSh {ρ : Nat → Option Nat} : ∀ (v : List V) {v' : List V} {ss : List Sh}, renVs ρ v = some v' → isShs ss v = true → isShs ss v' = true
  | [], v', ss, h, hs => by injection h with h; subst h; exact hs
  | v :: l, v', ss, h, hs => by
    simp only [renVs] at h
    split at h
    · rename_i x hx
      split at h
      · rename_i y hy
        injection h with h; subst h
        cases ss with
        | nil => simp [isShs] at hs
        | cons s ss =>
          simp only [isShs, Bool.and_eq_true] at hs ⊢
          exact ⟨ren_isSh v hx hs.1, rens_isSh l hy hs.2⟩
      · cases h
    · cases h
end

/-! ### a part of the state by itself -/
/-- the blocks of the small state -/
def MineL (ι : Nat → Option Cn) (L : List Nat) (s1 : S) (b : Nat) : Prop := ∃ j, Mine (ιL ι L) (lookH s1.hp) j b
def OL (ι : Nat → Option Cn) (O : Nat → Prop) (s : S) (L : List Nat) (s1 : S) : Nat → Prop := fun b => XS ι O s b ∧ ¬ MineL ι L s1 b
/-- what is known of a state made small -/
structure Small (s : S) (L : List Nat) (s1 : S) : Prop where
  nodup : L.Nodup
  blk : ∀ j b, lookH s1.hp j = some b → ∃ id k, L[j]? = some id ∧ lookH s.hp id = some k ∧ renB (idxN L) k = some b
  nx : s1.nx = L.length
  ob : s1.ob = true
  n : s1.n = s.n
  sl : ∀ t v, look s1.sl t = some v → ∃ u, look s.sl t = some u ∧ renV (idxN L) u = some v
theorem Small.mine {L : List Nat} {s1 : S} (h : Small s L s1) {j b : Nat} (hm : Mine (ιL ι L) (lookH s1.hp) j b) : ∃ id, L[j]? = some id ∧ Mine ι (lookH s.hp) id b := by
  obtain ⟨k, c, h1, h2, h3, h4⟩ := hm
  obtain ⟨id, k', e1, e2, e3⟩ := h.blk j k h1
  refine ⟨id, e1, k', c, e2, by rw [← renB_view e3]; exact h2, ?_, h4⟩
  unfold ιL at h3; rw [e1] at h3; exact h3
theorem Small.inj {L : List Nat} {s1 : S} (h : Small s L s1) {i j x : Nat} (h1 : L[i]? = some x) (h2 : L[j]? = some x) : i = j := by
  obtain ⟨hi, e1⟩ := List.getElem?_eq_some_iff.1 h1
  obtain ⟨hj, e2⟩ := List.getElem?_eq_some_iff.1 h2
  exact (List.getElem_inj h.nodup).1 (e1.trans e2.symm)
/-- a block, its numbers turned -/
theorem BRep.ren {ρ : Nat → Option Nat} {ι' : Nat → Option Cn} (hρ : Ren ρ ι ι') {X Y : Nat → Prop} (hXY : ∀ b, Y b → X b) {id j : Nat} {k b : Blk} (hj : ι' j = ι id) (hb : renB ρ k = some b) (h : BRep ι X w id k) : BRep ι' Y w j b := by
  cases h with
  | var hi hs hg hr =>
    rename_i sh v g ds T
    simp only [renB] at hb
    split at hb
    · rename_i v' hv
      injection hb with hb; subst hb
      exact .var (by rw [hj]; exact hi) (ren_isSh v hv hs) hg ((ren_rep hρ hXY v hv).1 hr)
    · cases hb
  | row hi hr ho =>
    injection hb with hb; subst hb
    refine .row (by rw [hj]; exact hi) ?_ ho
    cases hr with
    | bytes => exact .bytes
    | rows he hr => exact .rows he ((CReps.any_of (ι' := no) (fun p q => CRep.any p q) hr he).ext (no_to hXY))
  | view hi hr hw he =>
    injection hb with hb; subst hb
    exact .view (by rw [hj]; exact hi) ((row_any hw (ι' := no) hr).ext (no_to hXY)) hw he
theorem MSim.mineL_old {L : List Nat} {s1 : S} (h : MSim ι O w0 s w) (hS : Small s L s1) : ∀ b, MineL ι L s1 b → ¬ w0.old b := by
  rintro b ⟨j, hm⟩
  obtain ⟨id, _, hm⟩ := hS.mine hm
  exact (h.mem.fresh id b hm).1
def zoneL {L : List Nat} {s1 : S} (h : MSim ι O w0 s w) (hS : Small s L s1) : Zone := ⟨w, fun b => b < w.heap.size ∧ ¬ MineL ι L s1 b, h.mem.good, fun p hp => ⟨h.mem.good.lt hp, fun hm => h.mineL_old hS _ hm (w0.tab p hp)⟩⟩
/-- the small state by itself: what else there is stays -/
theorem MSim.front {L : List Nat} {s1 : S} (h : MSim ι O w0 s w) (hS : Small s L s1) :
    MSim (ιL ι L) (OL ι O s L s1) (zoneL h hS) s1 w ∧ (∀ b, XS (ιL ι L) (OL ι O s L s1) s1 b → XS ι O s b) ∧ (∀ b, MineL ι L s1 b → ¬ w0.old b) := by
  have hM : ∀ b, MineL ι L s1 b → (∃ id, Mine ι (lookH s.hp) id b) := by
    rintro b ⟨j, hm⟩
    obtain ⟨id, _, hm⟩ := hS.mine hm; exact ⟨id, hm⟩
  have hXY : ∀ b, XS (ιL ι L) (OL ι O s L s1) s1 b → XS ι O s b := by
    rintro b (hb | hm)
    · exact hb.1
    · exact .inr (hM b hm)
  have hX : ∀ b, XS ι O s b → b < w.heap.size := by
    rintro b (hb | ⟨id, hm⟩)
    · exact h.mem.lt (h.mem.outer b hb)
    · exact (h.mem.fresh id b hm).2
  refine ⟨⟨⟨Keeps.refl _ _, fun b hb => hb.1, fun b hb => ⟨hX b hb.1, hb.2⟩, ?_, ?_, ?_⟩, ?_⟩, hXY, fun b hm => by obtain ⟨id, hm⟩ := hM b hm; exact (h.mem.fresh id b hm).1⟩
  · intro j b hb
    obtain ⟨id, k, e1, e2, e3⟩ := hS.blk j b hb
    exact BRep.ren Ren.idx hXY (by unfold ιL; rw [e1]; rfl) e3 (h.mem.blk id k e2)
  · intro j j' b h1 h2
    obtain ⟨id, e1, m1⟩ := hS.mine h1
    obtain ⟨id', e2, m2⟩ := hS.mine h2
    have := h.mem.one _ _ _ m1 m2
    subst this
    exact hS.inj e1 e2
  · intro j b hm
    refine ⟨fun ho => ho.2 ⟨j, hm⟩, ?_⟩
    obtain ⟨id, _, m⟩ := hS.mine hm
    exact (h.mem.fresh id b m).2
  · intro j hj
    rw [hS.nx] at hj
    unfold ιL
    rw [List.getElem?_eq_none hj]; rfl
theorem isIn_spec {x : Nat} : ∀ {l : List Nat}, isIn x l = true ↔ x ∈ l
  | [] => by simp [isIn]
  | y :: l => by
    simp only [isIn, Bool.or_eq_true, List.mem_cons, isIn_spec (l := l)]
    exact ⟨fun h => h.imp Nat.eq_of_beq_eq_true id, fun h => h.imp (fun e => by subst e; simp) id⟩
theorem varsOk_spec {s1 : S} : ∀ {vs : List Nat}, varsOk s1 vs = true → ∀ v ∈ vs, ∃ k, lookH s1.hp v = some k
  | [], _, v, hv => by cases hv
  | y :: l, h, v, hv => by
    simp only [varsOk, Bool.and_eq_true] at h
    rcases List.mem_cons.1 hv with rfl | hv
    · have h1 := h.1
      split at h1
      · rename_i k hx; exact ⟨k, hx⟩
      · cases h1
    · exact varsOk_spec h.2 v hv
theorem backB_spec {ρ : Nat → Option Nat} (hinj : ∀ i j x, ρ i = some x → ρ j = some x → i = j) : ∀ {l l' : List (Nat × Option Blk)}, backB ρ l = some l' → ∀ i, (∀ k, lookH l' i = some k → ∃ j k', ρ j = some i ∧ lookH l j = some k' ∧ renB ρ k' = some k)
  | [], l', h, i, k, hk => by injection h with h; subst h; cases hk
  | (j, b) :: r, l', h, i, k, hk => by
    have tail : ∀ {l2 : List (Nat × Option Blk)} {i0 : Nat}, backB ρ r = some l2 → ρ j = some i0 → i0 ≠ i → lookH l2 i = some k → ∃ j' k', ρ j' = some i ∧ lookH ((j, b) :: r) j' = some k' ∧ renB ρ k' = some k := by
      intro l2 i0 h2 h0 hne h3
      obtain ⟨j', k', e1, e2, e3⟩ := backB_spec hinj h2 i k h3
      refine ⟨j', k', e1, ?_, e3⟩
      simp only [lookH]
      cases hq : Nat.beq j j' with
      | true => have := Nat.eq_of_beq_eq_true hq; subst this; rw [h0] at e1; injection e1 with e1; exact absurd e1 hne
      | false => exact e2
    simp only [backB] at h
    split at h
    · rename_i i0 h0
      split at h
      · rename_i k0
        split at h
        · rename_i k1 h1
          split at h
          · rename_i l2 h2
            injection h with h; subst h
            simp only [lookH] at hk
            cases hq : Nat.beq i0 i with
            | true =>
              rw [hq] at hk; injection hk with hk; subst hk
              have := Nat.eq_of_beq_eq_true hq; subst this
              exact ⟨j, k0, h0, by simp [lookH], h1⟩
            | false => rw [hq] at hk; exact tail h2 h0 (fun e => by subst e; simp at hq) hk
          · cases h
        · cases h
      · split at h
        · rename_i l2 h2
          injection h with h; subst h
          simp only [lookH] at hk
          cases hq : Nat.beq i0 i with
          | true => rw [hq] at hk; cases hk
          | false => rw [hq] at hk; exact tail h2 h0 (fun e => by subst e; simp at hq) hk
        · cases h
    · cases h
theorem dead_spec {hp : List (Nat × Option Blk)} {i : Nat} {k : Blk} : ∀ {L : List Nat}, lookH (L.map (fun i => (i, (none : Option Blk))) ++ hp) i = some k → i ∉ L ∧ lookH hp i = some k
  | [], h => ⟨by simp, h⟩
  | x :: L, h => by
    simp only [List.map_cons, List.cons_append, lookH] at h
    cases hq : Nat.beq x i with
    | true => rw [hq] at h; cases h
    | false =>
      rw [hq] at h
      obtain ⟨h1, h2⟩ := dead_spec (L := L) h
      exact ⟨by simp only [List.mem_cons, not_or]; exact ⟨fun e => by subst e; simp at hq, h1⟩, h2⟩
theorem lookH_app {l m : List (Nat × Option Blk)} {i : Nat} {k : Blk} (h : lookH (l ++ m) i = some k) : lookH l i = some k ∨ ((∀ k', lookH l i ≠ some k') ∧ lookH m i = some k) := by
  induction l with
  | nil => exact .inr ⟨fun k' h' => by (cases h'), h⟩
  | cons x l ih =>
    obtain ⟨y, v⟩ := x
    simp only [List.cons_append, lookH] at h ⊢
    cases hq : Nat.beq y i with
    | true => rw [hq] at h; exact .inl h
    | false => rw [hq] at h; exact ih h
/-- the small state put back -/
theorem MSim.back {L vs : List Nat} {s1 s2 : S} {ι' : Nat → Option Cn} {w' : World} {hp : List (Nat × Option Blk)} (h : MSim ι O w0 s w) (hS : Small s L s1) (hv : varsOk s1 vs = true)
    (h2 : MSim ι' (OL ι O s L s1) (zoneL h hS) s2 w') (he : ExtP (· ∈ vs) (ιL ι L) ι' (XS (ιL ι L) (OL ι O s L s1) s1) (XS ι' (OL ι O s L s1) s2) w w')
    (hb : backB (backR L vs s.nx) s2.hp = some hp) {s' : S} (hs' : s'.hp = hp ++ (L.map (fun i => (i, none)) ++ s.hp)) (hnx : s'.nx = s.nx + s2.nx) :
    ∃ ι2, MSim ι2 O w0 s' w' ∧ Ext ι ι2 (XS ι O s) (XS ι2 O s') w w' ∧ (∀ v v' c, renV (backR L vs s.nx) v = some v' → VRep ι' (XS ι' (OL ι O s L s1) s2) w' v c → VRep ι2 (XS ι2 O s') w' v' c) := by
  obtain ⟨hf, hXY, hold⟩ := h.front hS
  let ι2 : Nat → Option Cn := fun id => if id < s.nx then ι id else ι' (id - s.nx)
  have hlow : ∀ id c, ι id = some c → id < s.nx := by
    intro id c hc
    rcases Nat.lt_or_ge id s.nx with hlt | hge
    · exact hlt
    · rw [h.fresh id hge] at hc; cases hc
  have hio : ∀ id c, ι id = some c → ι2 id = some c := by
    intro id c hc
    show (if id < s.nx then ι id else ι' (id - s.nx)) = some c
    rw [if_pos (hlow id c hc)]; exact hc
  have hvar : ∀ v, v ∈ vs → ∃ i c, L[v]? = some i ∧ ι i = some c ∧ i < s.nx ∧ ι' v = some c := by
    intro v hm
    obtain ⟨k0, hx⟩ := varsOk_spec hv v hm
    obtain ⟨c, hc⟩ := hf.mem.known hx
    have hc' := hc
    unfold ιL at hc'
    cases hl : L[v]? with
    | none => rw [hl] at hc'; cases hc'
    | some i =>
      rw [hl] at hc'
      exact ⟨i, c, rfl, hc', hlow i c hc', he.io v c hm hc⟩
  have hρ : Ren (backR L vs s.nx) ι' ι2 := by
    intro j i hj
    unfold backR at hj
    cases hm : isIn j vs with
    | true =>
      rw [hm] at hj
      obtain ⟨i', c, e1, e2, e3, e4⟩ := hvar j (isIn_spec.1 hm)
      rw [cond_true, nthL_eq, e1] at hj
      injection hj with hj; subst hj
      rw [e4]; exact hio _ _ e2
    | false =>
      rw [hm] at hj
      injection hj with hj; subst hj
      show (if s.nx + j < s.nx then ι (s.nx + j) else ι' (s.nx + j - s.nx)) = ι' j
      rw [if_neg (by omega), Nat.add_sub_cancel_left]
  have hinj : ∀ i j x, backR L vs s.nx i = some x → backR L vs s.nx j = some x → i = j := by
    intro i j x h1 h2
    unfold backR at h1 h2
    cases hi : isIn i vs with
    | true =>
      rw [hi] at h1
      obtain ⟨i', c, e1, e2, e3, e4⟩ := hvar i (isIn_spec.1 hi)
      rw [cond_true, nthL_eq] at h1
      cases hj : isIn j vs with
      | true =>
        rw [hj, cond_true, nthL_eq] at h2
        exact hS.inj h1 h2
      | false =>
        rw [hj] at h2; injection h2 with h2
        rw [e1] at h1; injection h1 with h1
        omega
    | false =>
      rw [hi] at h1; injection h1 with h1
      cases hj : isIn j vs with
      | true =>
        rw [hj, cond_true, nthL_eq] at h2
        obtain ⟨i', c, e1, e2, e3, e4⟩ := hvar j (isIn_spec.1 hj)
        rw [e1] at h2; injection h2 with h2
        omega
      | false => rw [hj] at h2; injection h2 with h2; omega
  have look' : ∀ i k, lookH s'.hp i = some k → (∃ j k', backR L vs s.nx j = some i ∧ lookH s2.hp j = some k' ∧ renB (backR L vs s.nx) k' = some k) ∨ (i ∉ L ∧ lookH s.hp i = some k) := by
    intro i k hk
    rw [hs'] at hk
    rcases lookH_app hk with hk | ⟨_, hk⟩
    · exact .inl (backB_spec hinj hb i k hk)
    · exact .inr (dead_spec hk)
  have mine' : ∀ i b, Mine ι2 (lookH s'.hp) i b → (∃ j, backR L vs s.nx j = some i ∧ Mine ι' (lookH s2.hp) j b) ∨ (i ∉ L ∧ Mine ι (lookH s.hp) i b) := by
    rintro i b ⟨k, c, h1, h2', h3, h4⟩
    rcases look' i k h1 with ⟨j, k', e1, e2, e3⟩ | ⟨e1, e2⟩
    · exact .inl ⟨j, e1, k', c, e2, by rw [← renB_view e3]; exact h2', by rw [← hρ _ _ e1]; exact h3, h4⟩
    · refine .inr ⟨e1, k, c, e2, h2', ?_, h4⟩
      obtain ⟨c', hc'⟩ := h.mem.known e2
      rw [hio _ _ hc'] at h3; rw [hc']; exact h3
  have notMine : ∀ i b, i ∉ L → Mine ι (lookH s.hp) i b → ¬ MineL ι L s1 b := by
    rintro i b hi hm ⟨j, hj⟩
    obtain ⟨id, e1, m⟩ := hS.mine hj
    have := h.mem.one _ _ _ hm m
    subst this
    exact hi (List.mem_iff_getElem?.2 ⟨j, e1⟩)
  have outNot : ∀ b, O b → ¬ MineL ι L s1 b := by
    rintro b ho ⟨j, hj⟩
    obtain ⟨id, e1, m⟩ := hS.mine hj
    exact h.mem.mine_not_outer m ho
  have hX2 : ∀ b, XS ι2 O s' b → XS ι' (OL ι O s L s1) s2 b := by
    rintro b (hb' | ⟨i, hm⟩)
    · exact .inl ⟨.inl hb', outNot b hb'⟩
    · rcases mine' i b hm with ⟨j, _, hm⟩ | ⟨hi, hm⟩
      · exact .inr ⟨j, hm⟩
      · exact .inl ⟨.inr ⟨i, hm⟩, notMine i b hi hm⟩
  have hX3 : ∀ b, XS ι2 O s' b → XS ι O s b ∨ w.heap.size ≤ b := fun b hb' => (he.own b (hX2 b hb')).imp (hXY b) id
  have hzone : ∀ b, w0.old b → (zoneL h hS).old b := fun b hb' => ⟨h.mem.lt hb', fun hm => hold b hm hb'⟩
  have hE : Ext ι ι2 (XS ι O s) (XS ι2 O s') w w' := by
    refine ⟨he.size, hio, fun b hlt hx => h2.mem.below.block b ⟨hlt, fun hm => ?_⟩, hX3⟩
    obtain ⟨j, hj⟩ := hm
    obtain ⟨id, _, m⟩ := hS.mine hj
    exact hx (.inr ⟨id, m⟩)
  refine ⟨ι2, ⟨⟨?_, h.mem.old_lt, h.mem.outer, ?_, ?_, ?_⟩, ?_⟩, hE, fun v v' c hr hvr => renV_rep hρ hX2 hr hvr⟩
  · have hk : Keeps w0.old w w' := ⟨h2.mem.below.os, h2.mem.below.tape, h2.mem.below.output, h2.mem.below.size, fun b hb' => h2.mem.below.block b (hzone b hb')⟩
    exact h.mem.below.trans hk
  · intro i k hk
    rcases look' i k hk with ⟨j, k', e1, e2, e3⟩ | ⟨e1, e2⟩
    · exact BRep.ren hρ hX2 (hρ _ _ e1) e3 (h2.mem.blk j k' e2)
    · have same : ∀ b, Mine ι (lookH s.hp) i b → w'.heap[b]? = w.heap[b]? := fun b hm => h2.mem.below.block b ⟨(h.mem.fresh i b hm).2, notMine i b e1 hm⟩
      cases h.mem.blk i k e2 with
      | var hi hs hg hr =>
        rename_i sh v g ds ty
        have hm : Mine ι (lookH s.hp) i g := ⟨_, _, e2, rfl, hi, rfl⟩
        refine .var (hio _ _ hi) hs (?_ : Bas.Blk w' g ty ds) (hr.ext hE)
        unfold Bas.Blk at *
        rw [same g hm]; exact hg
      | row hi hr ho =>
        rename_i ty sh v A n c ds
        refine .row (hio _ _ hi) (hr.ext hE) (ownsRow_same ho fun a' ha => ?_)
        subst ha
        exact same _ ⟨_, _, e2, rfl, hi, rfl⟩
      | view hi hr hw hs => exact .view (hio _ _ hi) (hr.ext hE) hw hs
  · intro i i' b m1 m2
    rcases mine' i b m1 with ⟨j, r1, q1⟩ | ⟨n1, q1⟩
    · rcases mine' i' b m2 with ⟨j', r2, q2⟩ | ⟨n2, q2⟩
      · have := h2.mem.one _ _ _ q1 q2
        subst this
        rw [r1] at r2; injection r2
      · exact absurd (show (zoneL h hS).old b from ⟨(h.mem.fresh i' b q2).2, notMine i' b n2 q2⟩) (h2.mem.fresh j b q1).1
    · rcases mine' i' b m2 with ⟨j', r2, q2⟩ | ⟨n2, q2⟩
      · exact absurd (show (zoneL h hS).old b from ⟨(h.mem.fresh i b q1).2, notMine i b n1 q1⟩) (h2.mem.fresh j' b q2).1
      · exact h.mem.one _ _ _ q1 q2
  · intro i b hm
    rcases mine' i b hm with ⟨j, _, q⟩ | ⟨_, q⟩
    · exact ⟨fun ho => (h2.mem.fresh j b q).1 (hzone b ho), (h2.mem.fresh j b q).2⟩
    · exact ⟨(h.mem.fresh i b q).1, Nat.lt_of_lt_of_le (h.mem.fresh i b q).2 he.size⟩
  · intro id hid
    rw [hnx] at hid
    show (if id < s.nx then ι id else ι' (id - s.nx)) = none
    rw [if_neg (by omega)]
    exact h2.fresh _ (by omega)
end
end Go.Am

namespace Go.Am
open Go Go.RowKit Go.Bas
section
variable {ι : Nat → Option Cn} {O : Nat → Prop} {w0 : Zone} {w : World} {P : Program} {s : S} {a : Act}
theorem look_put {sl : List (Nat × V)} {d : Option Nat} {v : V} {t : Nat} : look (put sl d v) t = if d = some t then some v else look sl t := by
  cases d with
  | none => simp [put]
  | some x =>
    simp only [put, look]
    by_cases h : x = t
    · subst h; simp
    · have : Nat.beq x t = false := Bool.eq_false_iff.2 (fun hb => h (Nat.eq_of_beq_eq_true hb))
      rw [this, if_neg (by simpa using h)]; rfl
theorem put_size {d : Option Nat} {c : Value} : (a.put d c).tmps.size = a.tmps.size := by cases d <;> simp [Act.put]
theorem put_defers {d : Option Nat} {c : Value} : (a.put d c).defers = a.defers := by cases d <;> simp [Act.put]
theorem put_getD {d : Option Nat} {c : Value} {t : Nat} (ht : t < a.tmps.size) : (a.put d c).tmps.getD t Go.undef = if d = some t then c else a.tmps.getD t Go.undef := by
  cases d with
  | none => simp [Act.put]
  | some x =>
    simp only [Act.put, Array.getD_eq_getD_getElem?, Array.getElem?_setIfInBounds]
    by_cases h : x = t
    · subst h; simp [ht]
    · simp [h]
theorem dstOk_lt {n t : Nat} (h : dstOk n (some t) = true) : t < n := Nat.le_of_ble_eq_true h
/-- a slot gets a value, the memory goes on -/
theorem Sim.put' (h : Sim ι O w0 s a w) {ι' : Nat → Option Cn} {d : Option Nat} {v : V} {c : Value} {w' : World} {s' : S} (hd : dstOk s.n d = true) (hm : MSim ι' O w0 s' w') (he : Ext ι ι' (XS ι O s) (XS ι' O s') w w')
    (hv : VRep ι' (XS ι' O s') w' v c) (hsl : s'.sl = put s.sl d v) (hn : s'.n = s.n) : Sim ι' O w0 s' (a.put d c) w' := by
  refine ⟨hm, by rw [put_size, hn]; exact h.size, fun t u hu => ?_, by rw [put_defers]; exact h.defers⟩
  rw [hsl, look_put] at hu
  by_cases ht : d = some t
  · subst ht
    rw [if_pos rfl] at hu; injection hu with hu; subst hu
    have := dstOk_lt hd
    refine ⟨by rw [hn]; exact this, ?_⟩
    rw [put_getD (by rw [h.size]; exact this), if_pos rfl]
    exact hv
  · rw [if_neg ht] at hu
    obtain ⟨h1, h2⟩ := h.slots t u hu
    refine ⟨by rw [hn]; exact h1, ?_⟩
    rw [put_getD (by rw [h.size]; exact h1), if_neg ht]
    exact h2.ext he
theorem Sim.ob (h : Sim ι O w0 s a w) (b : Bool) : Sim ι O w0 { s with ob := b } a w := ⟨⟨h.mem, h.fresh⟩, h.size, h.slots, h.defers⟩
theorem Sim.skip (h : Sim ι O w0 s a w) {o : Oper} (hd : dstOk s.n o.dst = true) : Nxt ι O w0 s w (skipO o s) (a.put o.dst Go.undef) w :=
  ⟨ι, h.put' hd ⟨h.mem, fun id hid => h.fresh id (by have : s.nx + 1 ≤ id := hid; omega)⟩ Ext.refl .void rfl rfl, Ext.refl⟩
theorem Nxt.trans {s1 s2 : S} {a1 : Act} {w1 w2 : World} {a2 : Act} (h : Nxt ι O w0 s w s1 a1 w1) (k : ∀ ι1, Sim ι1 O w0 s1 a1 w1 → Nxt ι1 O w0 s1 w1 s2 a2 w2) : Nxt ι O w0 s w s2 a2 w2 := by
  obtain ⟨ι1, h1, h2⟩ := h
  obtain ⟨ι2, k1, k2⟩ := k ι1 h1
  exact ⟨ι2, k1, h2.trans k2⟩

/-! ### operands -/
/-! ### what is known of the functions that are called -/
/-- how code may end -/
def exOf : Ex → Exit
  | .normal => .normal
  | .exit id => .exit id
  | .ret => .ret
  | .goto l => .goto l
  | .pan ch => .panic ch
inductive Leaf : Tr → Ex → S → Prop
  | leaf {e s} : Leaf (.leaf e s) e s
  | t {x y e s} (h : Leaf x e s) : Leaf (.br true x y) e s
  | f {x y e s} (h : Leaf y e s) : Leaf (.br false x y) e s
/-- a loop comes to what is said -/
def LoopOk (P : Program) (c : Code) (vs : List Nat) (g : S → Option (Bool × Tr)) : Prop :=
  ∀ s t, g s = some (true, t) → ∀ (ι : Nat → Option Cn) (O : Nat → Prop) (w0 : Zone) (a : Act) (w : World), Sim ι O w0 s a w → s.ob = true →
    (Code.loop c).wp P (fun e a' w' => ∃ e' s', Leaf t e' s' ∧ e = exOf e' ∧ ∃ ι', Sim ι' O w0 s' a' w' ∧ ExtP (· ∈ vs) ι ι' (XS ι O s) (XS ι' O s') w w') a w
/-- from the label on, and from it again and again -/
def JumpWp (P : Program) (c : Code) (l : Nat) (Q : Exit → Act → World → Prop) (a : Act) (w : World) : Prop :=
  ∃ rest, findLabel c l = some rest ∧ ∀ (b : Frame) (k : List Item) (cs : List Frame), ∃ e a' w', Q e a' w' ∧ Arrives P (lone (b.at a (.code rest :: .inScope c :: k)) cs w) b k cs e a' w'
def JumpOk (P : Program) (c : Code) (l : Nat) (vs : List Nat) (g : S → Option (Bool × Tr)) : Prop :=
  ∀ s t, g s = some (true, t) → ∀ (ι : Nat → Option Cn) (O : Nat → Prop) (w0 : Zone) (a : Act) (w : World), Sim ι O w0 s a w → s.ob = true →
    JumpWp P c l (fun e a' w' => ∃ e' s', Leaf t e' s' ∧ e = exOf e' ∧ ∃ ι', Sim ι' O w0 s' a' w' ∧ ExtP (· ∈ vs) ι ι' (XS ι O s) (XS ι' O s') w w') a w
def LoopsOk (P : Program) : AC → Prop
  | .seq a b => LoopsOk P a ∧ LoopsOk P b
  | .cond _ a b => LoopsOk P a ∧ LoopsOk P b
  | .block _ a => LoopsOk P a
  | .loop c _ vs g => LoopOk P c.erase vs g
  | .unr _ c => LoopsOk P c
  | .scope c _ l _ vs g => LoopsOk P c ∧ JumpOk P c.erase l vs g
  | _ => True
/-- a call comes to what is said: of the blocks that it is handed, and of new ones -/
def RefOk (P : Program) (f : FuncId) (vs : List Nat) (F : S → Option (Bool × Tr)) : Prop :=
  ∀ s1 t, F s1 = some (true, t) → ∀ (ι : Nat → Option Cn) (O : Nat → Prop) (w0 : Zone) (w : World) (as : List V) (cs : List Value), s1.sl = slots 0 as → s1.ob = true → MSim ι O w0 s1 w → VReps ι (XS ι O s1) w as cs →
    Calls P f cs.toArray w fun e w' => ∃ ex s2 c v ι', Leaf t ex s2 ∧ e = .returned c ∧ look s2.sl 0 = some v ∧ MSim ι' O w0 s2 w' ∧ ExtP (· ∈ vs) ι ι' (XS ι O s1) (XS ι' O s2) w w' ∧ VRep ι' (XS ι' O s2) w' v c
/-- a function's annotated code is its code -/
structure AfOk (P : Program) (f : FuncId) (af : AF) : Prop where
  enter : ∀ (args : Array Value) (w : World), (callFunc f args).run P w = .ok (.enter f args) w
  code : ∃ fn, P.funcs[f]? = some fn ∧ fn.body = some af.ac.erase ∧ fn.results.toList = af.results ∧ fn.ntmps = af.n
  loops : LoopsOk P af.ac
/-- what a function that may give up comes to -/
inductive PTo : PT → V ⊕ List PanicEntry → Prop
  | val {v} : PTo (.val v) (.inl v)
  | pan {ch} : PTo (.pan ch) (.inr ch)
  | t {x y r} (h : PTo x r) : PTo (.br true x y) r
  | f {x y r} (h : PTo y r) : PTo (.br false x y) r
def SpecP (P : Program) (f : FuncId) (vs : List V) : V ⊕ List PanicEntry → Prop
  | .inl v => SpecV P f vs v
  | .inr ch => SpecN P f vs ch
def XOk (P : Program) (X : List (Nat × (List Sh × (List V → PT)))) : Prop := ∀ f ps F, look X f = some (ps, F) →
  (∀ (args : Array Value) (w : World), (callFunc f args).run P w = .ok (.enter f args) w) ∧ ∀ vs r, PTo (F vs) r → SpecP P f vs r
end
section
variable {R : Type} {E : Env} {inl : AF → List V → S → (V → S → Option R) → Option R} {kp : List PanicEntry → S → Option R}
variable {ι : Nat → Option Cn} {O : Nat → Prop} {w0 : Zone} {w : World} {s : S} {a : Act}
end
end Go.Am
