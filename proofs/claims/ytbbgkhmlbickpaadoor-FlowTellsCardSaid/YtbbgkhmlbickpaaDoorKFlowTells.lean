/- FlowTells: for every input the law returns true, and what came in reads as before; where the listed tables of Go's library hold what the program's text lays. -/
import Derived.Test.YtbbgkhmlbickpaaDoorCards
import Derived.Test.YtbbgkhmlbickpaaDoorTie
import Derived.Deep.DeepHandedRow
import Derived.Test.YtbbgkhmlbickpaaDoorGfl
import Derived.Test.YtbbgkhmlbickpaaDoorGla
import Derived.Test.YtbbgkhmlbickpaaDoorGf
import Derived.Test.YtbbgkhmlbickpaaDoorGd
set_option linter.all false
namespace Go.Proofs.YtbbgkhmlbickpaaDoor.flowTells
open Go Go.ChangeShapes Go.WideShapes Go.ChangeAt Go.RowKit Go.Bas Go.Am

theorem own : ownKnob Tryd.prog.godebug = none := by kernel_rfl
theorem laidOut : laidOutB Tryd.prog = true := by kernel_rfl
set_option maxRecDepth 100000 in
set_option maxHeartbeats 4000000 in
theorem closed : joinedFacts Tryd.checked.prog 6 Tryd.f6 Rows.flowTellsSpec Rows.flowTellsRow = true := by
  unfold joinedFacts
  rw [fMay, fLift, fMake]
  refine (andB (andB (andB (andB (andB (andB (andB (andB (andB (andB (andB (andB (andB (andB (andB (andB (andB (andB (andB (andB (andB (andB (andB (andB (andB (andB (andB (andB (andB (andB ?_ ?_) ?_) ?_) ?_) ?_) ?_) ?_) ?_) ?_) ?_) ?_) ?_) ?_) ?_) ?_) ?_) ?_) ?_) ?_) ?_) ?_) ?_) ?_) ?_) ?_) ?_) ?_) ?_) ?_) ?_)
  all_goals as_aux_lemma => kernel_rfl
noncomputable def wArgs : Array Value := Tryd.f6.params.map (zArg Tryd.prog 8)
theorem reads (os : Os) {H : Type} (enc : TypeId × Value → H) : ∃ places, DataW.whole enc Tryd.prog ((laidW os).forCall (fun _ _ => 0) ⟨#[], wArgs, []⟩).memory Tryd.f6.params.toList Rows.flowTellsSpec.vars false wArgs.toList 8 = some ([(.agg [.agg (List.replicate 16 (.lit (.int .u8 0))), .lit (.int .i64 0), .agg (List.replicate 16 (.lit (.int .u8 0))), .lit (.int .i64 0)])], [], places) :=
  ⟨[], by kernel_rfl⟩
theorem plain (f : FuncId) (fn : Func) (hf : Tryd.pinned.checked.prog.funcNamed "harrier/harrierlaw14.FlowTells" = some f) (hfn : Tryd.pinned.checked.prog.funcs[f]? = some fn) :
    false = Tryd.pinned.checked.prog.looks [] ∧ ∀ (j : Nat) t, fn.params[j]? = some t → Tryd.pinned.checked.prog.wantsStandIn t = false := by
  obtain rfl : f = 6 := Option.some.inj ((show Tryd.prog.funcNamed "harrier/harrierlaw14.FlowTells" = some 6 by kernel_rfl).symm.trans hf) |>.symm
  obtain rfl : fn = Tryd.f6 := (Option.some.inj (Tryd.func6.symm.trans hfn)).symm
  refine ⟨by kernel_rfl, fun j t ht => ?_⟩
  have hm : t ∈ Tryd.f6.params.toList := by simpa using Array.mem_of_getElem? ht
  have hall : Tryd.f6.params.toList.all (fun t => !Tryd.prog.wantsStandIn t) = true := by kernel_rfl
  have := List.all_eq_true.1 hall t hm
  exact (by simpa using this : Tryd.prog.wantsStandIn t = false)
end Go.Proofs.YtbbgkhmlbickpaaDoor.flowTells
