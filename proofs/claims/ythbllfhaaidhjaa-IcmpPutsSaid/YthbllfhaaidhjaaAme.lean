/- The abstract machine, fifth part: operations that make no memory. -/
import Derived.Test.YthbllfhaaidhjaaAmd
namespace Go.Am
open Go Go.RowKit Go.Bas
section
variable {ι : Nat → Option Cn} {O : Nat → Prop} {w0 : Zone} {w w' : World} {hp : Nat → Option Blk} {P : Program}

/-! ### what stands for a value -/
theorem VRep.int_inv {k n c} (h : VRep ι O w (.int k n) c) : c = .int k n ∧ (k = .u8 → 0 ≤ n ∧ n < 256) := by
  cases h with
  | one h ha => cases h with | int h => exact ⟨rfl, h⟩
  | agg h ha => cases ha
theorem VRep.bool_inv {b c} (h : VRep ι O w (.bool b) c) : c = .bool b := by
  cases h with
  | one h ha => cases h; rfl
  | agg h ha => cases ha
theorem VRep.str_inv {l c} (h : VRep ι O w (.str l) c) : c = .string ⟨l.toArray⟩ := by
  cases h with
  | one h ha => cases h; rfl
  | agg h ha => cases ha
theorem VRep.nils_inv {c} (h : VRep ι O w .nils c) : c = .slice none 0 0 := by
  cases h with
  | one h ha => cases h; rfl
  | agg h ha => cases ha
theorem VRep.bytes_inv {l c} (h : VRep ι O w (.bytes l) c) : ∃ A n k, c = .slice A n k ∧ Bs w A n k l ∧ (l ≠ [] → ∀ b off, A = some ⟨b, off, none⟩ → ¬ O b) := by
  cases h with
  | one h ha => cases h with | bytes h1 h2 => exact ⟨_, _, _, rfl, h1, h2⟩
  | agg h ha => cases ha
theorem VRep.own_inv {id n sh c} (h : VRep ι O w (.own id n sh) c) : ∃ A k T, c = .slice A n k ∧ ι id = some (.row A n k T sh) ∧ (0 < n → ∃ g, A = some ⟨g, 0, none⟩) := by
  cases h with
  | one h ha => cases h with | own h1 h2 => exact ⟨_, _, _, rfl, h1, h2⟩
  | agg h ha => cases ha
theorem VRep.ref_inv {id p off sh c} (h : VRep ι O w (.ref id p off sh) c) : ∃ g, c = .pointer (some ⟨g, off, none⟩) ∧ RefTo ι id p off sh g := by
  cases h with
  | one h ha => cases h with | ref h1 => exact ⟨_, rfl, h1⟩
  | agg h ha => cases ha
theorem VRep.vref_inv {sh v c} (h : VRep ι O w (.vref sh v) c) : ∃ b off ds, c = .pointer (some ⟨b, off, none⟩) ∧ isR sh v = true ∧ CRep ι O w v ds ∧ ¬ O b ∧ b < w.heap.size ∧ ∀ j u, ds[j]? = some u → w.cell? ⟨b, off + j, none⟩ = some u := by
  cases h with
  | one h ha => cases h with | vref h1 h2 h3 h4 h5 => exact ⟨_, _, _, rfl, h1, h2, h3, h4, h5⟩
  | agg h ha => cases ha
theorem VRep.fn_inv {f a b c} (h : VRep ι O w (.fn f a b) c) : ∃ as bs, c = .func (.func f) as.toArray bs.toArray ∧ VReps ι O w a as ∧ VReps ι O w b bs := by
  cases h with
  | one h ha => cases h with | fn h1 h2 => exact ⟨_, _, rfl, h1, h2⟩
  | agg h ha => cases ha
theorem VRep.tup_inv {l c} (h : VRep ι O w (.tup l) c) : ∃ cs, c = .tuple cs.toArray ∧ VReps ι O w l cs := by
  cases h with
  | one h ha => cases h
  | agg h ha => cases ha
  | tup h => exact ⟨_, rfl, h⟩
theorem VRep.agg_inv {v c} (h : VRep ι O w v c) (ha : v.isAgg = true) : ∃ cs, c = .agg cs.toArray ∧ CRep ι O w v cs := by
  cases h with
  | one h hb => rw [ha] at hb; cases hb
  | agg h ha => exact ⟨_, rfl, h⟩
  | tup h => cases ha
  | void => cases ha
  | undef => cases ha
theorem VReps.one_inv {v : V} {cs : List Value} (h : VReps ι O w [v] cs) : ∃ c, cs = [c] ∧ VRep ι O w v c := by
  cases h with | cons a b => cases b; exact ⟨_, rfl, a⟩
theorem VReps.two_inv {u v : V} {cs : List Value} (h : VReps ι O w [u, v] cs) : ∃ c d, cs = [c, d] ∧ VRep ι O w u c ∧ VRep ι O w v d := by
  cases h with | cons a b => obtain ⟨d, rfl, hd⟩ := b.one_inv; exact ⟨_, _, rfl, a, hd⟩
theorem VReps.three_inv {u v x : V} {cs : List Value} (h : VReps ι O w [u, v, x] cs) : ∃ c d e, cs = [c, d, e] ∧ VRep ι O w u c ∧ VRep ι O w v d ∧ VRep ι O w x e := by
  cases h with | cons a b => obtain ⟨d, e, rfl, hd, he⟩ := b.two_inv; exact ⟨_, _, _, rfl, a, hd, he⟩
theorem VReps.cons_inv {v : V} {l : List V} {cs : List Value} (h : VReps ι O w (v :: l) cs) : ∃ c ds, cs = c :: ds ∧ VRep ι O w v c ∧ VReps ι O w l ds := by
  cases h with | cons a b => exact ⟨_, _, rfl, a, b⟩
theorem VRep.i {k : IntKind} {n : Int} (h : k = .u8 → 0 ≤ n ∧ n < 256) : VRep ι O w (.int k n) (.int k n) := .one (.int h) rfl
theorem VRep.b {b : Bool} : VRep ι O w (.bool b) (.bool b) := .one .bool rfl
theorem VRep.s {l : List UInt8} : VRep ι O w (.str l) (.string ⟨l.toArray⟩) := .one .str rfl

/-- what is known when an operation is done -/
def Post (ι : Nat → Option Cn) (O : Nat → Prop) (w0 : Zone) (hp : Nat → Option Blk) (w : World) (nid : Nat) (v : V) (wr : List (Nat × Option Blk)) (w' : World) (c : Value) : Prop :=
  ∃ ι', HSim ι' O w0 (updH wr hp) w' ∧ Ext ι ι' (Ex1 ι hp O) (Ex1 ι' (updH wr hp) O) w w' ∧ VRep ι' (Ex1 ι' (updH wr hp) O) w' v c ∧ (∀ id, id ≠ nid → ι' id = ι id)
theorem Post.pure (h : HSim ι O w0 hp w) {nid : Nat} {v : V} {c : Value} (hv : VRep ι (Ex1 ι hp O) w v c) : Post ι O w0 hp w nid v [] w c :=
  ⟨ι, h, Ext.refl, hv, fun _ _ => rfl⟩
/-- the operation yields c -/
def Does (P : Program) (o : Oper) (a : Act) (w : World) (w' : World) (c : Value) : Prop :=
  (execOp a.eval o).run P w = .ok (.value c) w' ∨ ((execOp a.eval o).run P w = .ok .skip w' ∧ c = Go.undef)
theorem Does.wp {o : Oper} {a : Act} {w w' : World} {c : Value} (h : Does P o a w w' c) {K : Act → World → Prop} {Q : Exit → Act → World → Prop} (hK : K (a.put o.dst c) w') : o.wp P a w K Q := by
  unfold Oper.wp
  rcases h with h | ⟨h, rfl⟩
  · rw [h]; exact hK
  · rw [h]; exact hK

/-! ### integers, bools, strings -/
theorem u8_fdiv {a : Int} (n : Nat) (h : 0 ≤ a ∧ a < 256) : 0 ≤ a.fdiv (2 ^ n) ∧ a.fdiv (2 ^ n) < 256 := by
  have hp : (0 : Int) ≤ 2 ^ n := Int.pow_nonneg (by decide)
  rw [Int.fdiv_eq_ediv_of_nonneg _ hp]
  have h1 := Int.ediv_nonneg h.1 hp
  have h2 := Int.ediv_le_self (2 ^ n) h.1
  omega
theorem u8_tmod {a b : Int} (h : 0 ≤ a ∧ a < 256) : 0 ≤ a.tmod b ∧ a.tmod b < 256 := by
  have h1 := Int.tmod_nonneg b h.1
  have h2 := Int.natAbs_tmod a b
  have h3 := Nat.mod_le a.natAbs b.natAbs
  omega
theorem wrap_u8 (z : Int) : 0 ≤ IntKind.u8.wrap z ∧ IntKind.u8.wrap z < 256 := by
  simp [IntKind.wrap, IntKind.signed, IntKind.bits]
  omega
theorem run_binI (op : BinOp) (k : IntKind) (a b : Int) (t : TypeId) (x y : Operand) {r : Res} (hr : (match op with | .shl => shI .shl k a b | .shr => shI .shr k a b | op => binI op k a b) = some r) (hob : r.ob = true) {k' : IntKind} (hk : (op = .shl ∨ op = .shr) ∨ k = k')
    (h1 : k = .u8 → 0 ≤ a ∧ a < 256) (w : World) :
    ∃ c, ((do eqGuard op t x y (.int k a) (.int k' b); binOp op t (.int k a) (.int k' b)) : Sem Value).run P w = .ok c w ∧ (∀ ι O, VRep ι O w r.v c) ∧ r.wr = [] := by
  have hg : ∀ (op : BinOp), (eqGuard op t x y (.int k a) (.int k' b)).run P w = .ok () w := by
    intro op; unfold eqGuard; cases op <;> simp
  have wr8 : ∀ z : Int, k = .u8 → 0 ≤ k.wrap z ∧ k.wrap z < 256 := by
    rintro z rfl
    exact wrap_u8 z
  simp only [Sem.run_bind, hg, Result.andThen_ok]
  cases op
  case shl =>
    simp only [shI, Option.some.injEq] at hr
    subst hr
    have hb : 0 ≤ b := by simpa using hob
    refine ⟨_, ?_, fun ι O => VRep.i (wr8 _), rfl⟩
    simp [binOp, Op.shift, show ¬ b < 0 by omega]
  case shr =>
    simp only [shI, Option.some.injEq] at hr
    subst hr
    have hb : 0 ≤ b := by simpa using hob
    refine ⟨_, ?_, fun ι O => VRep.i (fun hk8 => u8_fdiv _ (h1 hk8)), rfl⟩
    simp [binOp, Op.shift, show ¬ b < 0 by omega]
  all_goals
    obtain rfl : k = k' := by rcases hk with (h | h) | h; exact absurd h (by decide); exact absurd h (by decide); exact h
    simp only [binI, pureR, cmpI, Option.map_some, Option.some.injEq] at hr
    subst hr
  case quo =>
    have hb : b ≠ 0 := by simpa using hob
    exact ⟨_, by simp [binOp, Op.intDiv, hb], fun ι O => VRep.i (wr8 _), rfl⟩
  case rem =>
    have hb : b ≠ 0 := by simpa using hob
    exact ⟨_, by simp [binOp, Op.intDiv, hb], fun ι O => VRep.i (fun hk8 => u8_tmod (h1 hk8)), rfl⟩
  all_goals first
    | exact ⟨_, by simp [binOp, Op.intArith]; rfl, fun ι O => VRep.i (wr8 _), rfl⟩
    | exact ⟨_, by simp [binOp, Op.intArith], fun ι O => VRep.i (wr8 _), rfl⟩
    | exact ⟨_, by simp [binOp, Op.intCmp], fun ι O => VRep.b, rfl⟩
    | exact ⟨_, by simp [binOp, Op.intCmp]; rfl, fun ι O => VRep.b, rfl⟩
    | exact ⟨_, by simp [binOp]; rfl, fun ι O => VRep.i (wr8 _), rfl⟩
end
end Go.Am
