/- Arrays and structs of bytes in memory: loads of them, whole. -/
import Derived.Test.YthbllfhaaidhjaaBase
namespace Go.Bas
open Go Go.RowKit Go.Mix

section
variable {P : Program}
theorem ld_bytes {t : TypeId} {d : TypeDesc} (hu : P.underlying t = some d) (hd : (match d with | .struct _ | .array _ _ => true | _ => false) = true) {m : Nat} (hi : (P.info? t).map (·.size) = some m)
    {w : World} {b off : Nat} {l : List UInt8} (hc : ∀ j, j < l.length → w.cell? ⟨b, j, none⟩ = some (.int .u8 (gt l j))) (h : off + m ≤ l.length) :
    (Instr.loadAt t (.pointer (some ⟨b, off, none⟩))).run P w = .ok (av ((l.drop off).take m)) w := by
  refine run_load_agg hu hd hi (((l.drop off).take m).map bv) (by simp; omega) (fun j v hv => ?_)
  have hj : j < m := by
    rcases Nat.lt_or_ge j m with h' | h'
    · exact h'
    · rw [List.getElem?_eq_none (by simp; omega)] at hv; cases hv
  rw [bv_getElem? (by simp; omega)] at hv
  cases hv
  rw [hc _ (by omega), gt_take hj, gt_drop]
theorem cells_new (w : World) (l : List UInt8) (T : TypeId) : ∀ j, j < l.length → (w.alloc (.cells (l.map bv).toArray T)).cell? ⟨w.heap.size, j, none⟩ = some (.int .u8 (gt l j)) := by
  intro j hj
  rw [cell_new, List.getElem?_toArray, bv_getElem? hj]

variable {ops : Array Oper}
/-- a held load whose run is known -/
theorem seg_ld {Q : Act → World → Prop} {C : World → Prop} {a : Act} {w : World} {i : Nat} {r : List (Nat × Nat)} (o : Oper) (v : Value) (t : TypeId) (x : Operand) (p : Value) (hrun : ∀ w, C w → (Instr.loadAt t p).run P w = .ok v w)
    (ho : nth ops.toList i = some o) (hw : Region.wanted o (yielded ops a.tmps) = true) (hop : o.op = .load t x) (hx : a.eval x = p)
    (h : wpSegs P ops Q r C (a.put o.dst v) w) : wpSegs P ops Q ((i, 0) :: r) C a w := by
  rw [nth_eq, Array.getElem?_toList] at ho
  show qOp P ops C i _ a
  unfold qOp
  simp only [ho, hw, if_true]
  refine ⟨v, fun w1 hw1 => ?_, h⟩
  unfold Oper.quietAt execOp
  simp only [hop, hx, Sem.run_bind, Sem.run_pure, hrun w1 hw1, Result.andThen_ok]
  exact ⟨rfl, rfl⟩
theorem wpList_ld {o : Oper} {a : Act} {w : World} {rest : List Oper} {Q : Exit → Act → World → Prop} (hg : o.guard = none) (v : Value) (t : TypeId) (x : Operand) (p : Value) (hop : o.op = .load t x) (hx : a.eval x = p)
    (hrun : (Instr.loadAt t p).run P w = .ok v w) (h : wpList P ops Q rest (a.put o.dst v) w) : wpList P ops Q (o :: rest) a w := by
  refine wpList_run hg (v := v) (w' := w) ?_ h
  unfold execOp
  simp only [hop, hx, Sem.run_bind, Sem.run_pure, hrun, Result.andThen_ok]
end
end Go.Bas
