/- The abstract machine, seventh part: operations that make no memory, the rest. -/
import Derived.Test.YthbllfhaaidhjaaAmf
import Derived.Test.YthbllfhaaidhjaaStr
import Derived.Laws.Strings2
namespace Go.Am
open Go Go.RowKit Go.Bas
section
variable {ι : Nat → Option Cn} {O : Nat → Prop} {w0 : Zone} {w : World} {hp : Nat → Option Blk} {P : Program}

/-! ### strings -/
theorem run_binS (op : BinOp) (a b : List UInt8) (t : TypeId) (u v : Operand) {r : Res} (hr : binS op a b = some r) (hob : r.ob = true) (w : World) :
    ∃ c, ((do eqGuard op t u v (.string ⟨a.toArray⟩) (.string ⟨b.toArray⟩); binOp op t (.string ⟨a.toArray⟩) (.string ⟨b.toArray⟩)) : Sem Value).run P w = .ok c w ∧ (∀ ι O, VRep ι O w r.v c) ∧ r.wr = [] := by
  have hg : ∀ (op : BinOp), (eqGuard op t u v (.string ⟨a.toArray⟩) (.string ⟨b.toArray⟩)).run P w = .ok () w := by
    intro op; unfold eqGuard; cases op <;> simp
  simp only [Sem.run_bind, hg, Result.andThen_ok]
  cases op <;> simp only [binS, pureR, Option.some.injEq] at hr <;> first | (cases hr; done) | subst hr
  case add =>
    have hb : a.length + b.length ≤ 9223372036854775807 := Nat.le_of_ble_eq_true hob
    refine ⟨.string ⟨(a ++ b).toArray⟩, ?_, fun ι O => VRep.s, rfl⟩
    have e : (⟨a.toArray⟩ : ByteArray) ++ ⟨b.toArray⟩ = ⟨(a ++ b).toArray⟩ := sb_app a b
    have h1 : (⟨a.toArray⟩ : ByteArray).size = a.length := sb_sz a
    have h2 : (⟨b.toArray⟩ : ByteArray).size = b.length := sb_sz b
    simp [binOp, Op.stringOp, e, h1, h2, IntKind.max, IntKind.signed, IntKind.bits]
    omega
  all_goals exact ⟨_, by simp [binOp, Op.stringOp], fun ι O => VRep.b, rfl⟩

/-! ### binOp, unOp -/
theorem run_binV {t : TypeId} {op : BinOp} {x y : V} {c d : Value} {r : Res} (hx : VRep ι O w x c) (hy : VRep ι O w y d) (h : binV P t op x y = some r) (hob : r.ob = true) (u v : Operand) :
    ∃ e, ((do eqGuard op t u v c d; binOp op t c d) : Sem Value).run P w = .ok e w ∧ VRep ι O w r.v e ∧ r.wr = [] := by
  have fin : ∀ {s : Sem Value} , (∃ e, s.run P w = .ok e w ∧ (∀ ι O, VRep ι O w r.v e) ∧ r.wr = []) → ∃ e, s.run P w = .ok e w ∧ VRep ι O w r.v e ∧ r.wr = [] := fun ⟨e, h1, h2, h3⟩ => ⟨e, h1, h2 _ _, h3⟩
  unfold binV at h
  split at h
  · obtain ⟨rfl, h1⟩ := hx.int_inv; obtain ⟨rfl, _⟩ := hy.int_inv
    exact fin (run_binI .shl _ _ _ t u v h hob (.inl (.inl rfl)) h1 w)
  · obtain ⟨rfl, h1⟩ := hx.int_inv; obtain ⟨rfl, _⟩ := hy.int_inv
    exact fin (run_binI .shr _ _ _ t u v h hob (.inl (.inr rfl)) h1 w)
  · rename_i k a k' b n1 n2
    obtain ⟨rfl, h1⟩ := hx.int_inv; obtain ⟨rfl, _⟩ := hy.int_inv
    obtain ⟨hk, h⟩ := ofBif h
    have hk : k = k' := by simpa using hk
    refine fin (run_binI op _ _ _ t u v (r := r) ?_ hob (.inr hk) h1 w)
    cases op <;> first | exact h | exact (n1 rfl).elim | exact (n2 rfl).elim
  · cases hx.str_inv; cases hy.str_inv
    exact fin (run_binS _ _ _ t u v h hob w)
  · obtain ⟨b, hb, rfl⟩ := Option.map_eq_some_iff.1 h
    exact ⟨_, (run_eqT hx hy hb u v).1, VRep.b, rfl⟩
  · obtain ⟨b, hb, rfl⟩ := Option.map_eq_some_iff.1 h
    exact ⟨_, (run_eqT hx hy hb u v).2, VRep.b, rfl⟩
  · cases h
theorem run_unV {op : UnOp} {x : V} {c : Value} {r : Res} (hx : VRep ι O w x c) (h : unV op x = some r) : ∃ e, (Op.unary op c).run P w = .ok e w ∧ VRep ι O w r.v e ∧ r.wr = [] ∧ r.ob = true := by
  have w8 : ∀ (k : IntKind) (z : Int), k = .u8 → 0 ≤ k.wrap z ∧ k.wrap z < 256 := by rintro _ z rfl; exact wrap_u8 z
  unfold unV at h
  split at h
  rotate_right
  · cases h
  all_goals (simp only [pureR, Option.some.injEq] at h; subst h)
  · obtain ⟨rfl, _⟩ := hx.int_inv
    exact ⟨_, by simp [Op.unary, Op.intArith], VRep.i (w8 _ _), rfl, rfl⟩
  · obtain ⟨rfl, _⟩ := hx.int_inv
    exact ⟨_, by simp [Op.unary]; rfl, VRep.i (w8 _ _), rfl, rfl⟩
  · cases hx.bool_inv
    exact ⟨_, by simp [Op.unary], VRep.b, rfl, rfl⟩
theorem pick_rep {b : Bool} {x y v : V} {c d : Value} (hx : VRep ι O w x c) (hy : VRep ι O w y d) (h : pickV b x y = some v) : VRep ι O w v (if b then c else d) := by
  unfold pickV at h
  split at h
  · obtain ⟨hk, h'⟩ := ofBif h
    obtain rfl := of_decide_eq_true hk
    injection h' with h'; subst h'
    obtain ⟨rfl, h1⟩ := hx.int_inv; obtain ⟨rfl, h2⟩ := hy.int_inv
    cases b
    · exact hy
    · exact hx
  · injection h with h; subst h
    cases hx.bool_inv; cases hy.bool_inv
    cases b
    · exact hy
    · exact hx
  · cases b
    · injection h with h; subst h; exact hy
    · injection h with h; subst h; exact hx

/-! ### addresses -/
theorem idx_run {k : IntKind} {i : Int} (t e : TypeId) (n : Nat) (g off : Nat) (sz : Nat) (hu : P.underlying t = some (.array n e)) (hs : (P.info? e).map (·.size) = some sz) (hi : inB i n = true) :
    (Instr.indexAt t (.pointer (some ⟨g, off, none⟩)) (.int k i)).run P w = .ok (.pointer (some ⟨g, off + i.toNat * sz, none⟩)) w := by
  simp only [inB, Bool.and_eq_true, decide_eq_true_eq] at hi
  cases hq : P.info? e with
  | none => simp [hq] at hs
  | some inf =>
    simp [hq] at hs; subst hs
    simp [Instr.indexAt, asIntOf, run_underlying hu, Instr.sureAddr, sizeOf, typeInfo, hq, hi.1, hi.2, add_lit0]
theorem idx_run_slice {k : IntKind} {i : Int} (t e : TypeId) (n c : Nat) (b off : Nat) (sz : Nat) (hu : P.underlying t = some (.slice e)) (hs : (P.info? e).map (·.size) = some sz) (hi : inB i n = true) :
    (Instr.indexAt t (.slice (some ⟨b, off, none⟩) n c) (.int k i)).run P w = .ok (.pointer (some ⟨b, off + i.toNat * sz, none⟩)) w := by
  simp only [inB, Bool.and_eq_true, decide_eq_true_eq] at hi
  cases hq : P.info? e with
  | none => simp [hq] at hs
  | some inf =>
    simp [hq] at hs; subst hs
    simp [Instr.indexAt, asIntOf, run_underlying hu, sizeOf, typeInfo, hq, hi.1, hi.2, add_lit0]
theorem fld_run (t : TypeId) (fs : Array Field) (f : Field) (j : Nat) (g off : Nat) (hu : P.underlying t = some (.struct fs)) (hf : fs[j]? = some f) (hz : (P.info? f.type).map (fun i => decide (i.size = 0)) = some false) :
    (Instr.fieldAt t (.pointer (some ⟨g, off, none⟩)) j).run P w = .ok (.pointer (some ⟨g, off + f.offset, none⟩)) w := by
  cases hq : P.info? f.type with
  | none => simp [hq] at hz
  | some inf =>
    simp [hq] at hz
    simp [Instr.fieldAt, run_underlying hu, hf, Instr.sureAddr, fieldPlace, sizeOf, typeInfo, hq, hz, add_lit0]
/-! ### loads -/
theorem ldOk_spec {t : TypeId} {sh : Sh} (h : ldOk P t sh = true) : (P.info? t).map (·.size) = some sh.size ∧ ∀ w, (isAgg t).run P w = .ok sh.isAgg w := by
  unfold ldOk at h
  cases hq : P.info? t with
  | none => simp [hq] at h
  | some i =>
    simp only [hq, Bool.and_eq_true] at h
    obtain ⟨h1, h2⟩ := h
    refine ⟨by simp [Nat.eq_of_beq_eq_true h1], fun w => ?_⟩
    cases hu : P.underlying t with
    | none => simp [hu] at h2
    | some d =>
      simp only [hu] at h2
      simp only [isAgg, Sem.run_bind, run_underlying hu, Result.andThen_ok]
      cases d <;> simp at h2 <;> simp [h2]
theorem isSh_isAgg {sh : Sh} {v : V} (h : isSh sh v = true) : v.isAgg = sh.isAgg := by
  cases sh with
  | other k => cases k <;> cases v <;> simp [isSh] at h <;> rfl
  | _ => cases v <;> simp [isSh] at h <;> rfl
theorem run_loadA {t : TypeId} (hia : (isAgg t).run P w = .ok true w) {m : Nat} (hi : (P.info? t).map (·.size) = some m) {b off : Nat} (cs : List Value) (hl : cs.length = m) (hc : ∀ j v, cs[j]? = some v → w.cell? ⟨b, off + j, none⟩ = some v) :
    (Instr.loadAt t (.pointer (some ⟨b, off, none⟩))).run P w = .ok (.agg cs.toArray) w := by
  have hl' : (loadCells ⟨b, off, none⟩ cs.length).run P w = .ok cs.toArray w :=
    run_loadCells_list (P := P) w ⟨b, off, none⟩ cs (fun j v hv => by rw [add_lit0]; exact hc j v hv)
  cases hq : P.info? t with
  | none => simp [hq] at hi
  | some i =>
    have hs : i.size = cs.length := by simp [hq] at hi; omega
    simp [Instr.loadAt, Instr.sureAddr, loadVar, hia, sizeOf, typeInfo, hq, hs, hl']
theorem run_load1 {t : TypeId} (hia : (isAgg t).run P w = .ok false w) {a : Addr} {c : Value} (hc : w.cell? a = some c) :
    (Instr.loadAt t (.pointer (some a))).run P w = .ok c w := by
  simp only [Instr.loadAt, Instr.sureAddr, Sem.run_bind, Sem.run_pure, Result.andThen_ok, loadVar, hia]
  show (load a).run P w = _
  simp [load, Sem.run, hc]
theorem load_rep {t : TypeId} {sh : Sh} {x : V} {cs : List Value} {b off : Nat} (hl : ldOk P t sh = true) (hs : isSh sh x = true) (hr : CRep ι O w x cs) (hc : ∀ j u, cs[j]? = some u → w.cell? ⟨b, off + j, none⟩ = some u) :
    ∃ c, (Instr.loadAt t (.pointer (some ⟨b, off, none⟩))).run P w = .ok c w ∧ VRep ι O w x c := by
  obtain ⟨h1, hia⟩ := ldOk_spec hl
  have hlen := CRep.len hs hr
  cases ha : sh.isAgg with
  | true =>
    rw [ha] at hia
    exact ⟨_, run_loadA (hia w) h1 cs hlen hc, .agg hr (by rw [isSh_isAgg hs]; exact ha)⟩
  | false =>
    rw [ha] at hia
    have h1' : sh.size = 1 := by cases sh <;> simp [Sh.isAgg] at ha <;> rfl
    obtain ⟨c, rfl⟩ : ∃ c, cs = [c] := by
      rw [h1'] at hlen
      match cs, hlen with
      | [c], _ => exact ⟨c, rfl⟩
    exact ⟨c, run_load1 (hia w) (by simpa using hc 0 c rfl), .one hr (by rw [isSh_isAgg hs]; exact ha)⟩
end
end Go.Am
