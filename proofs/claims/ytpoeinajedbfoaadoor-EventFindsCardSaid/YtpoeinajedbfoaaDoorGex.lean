/- Part Gex of the proof: laws used by the law of this claim. -/
import Derived.Test.YtpoeinajedbfoaaDoorGew
import Derived.Test.YtpoeinajedbfoaaDoorGds
set_option linter.all false
namespace Go.Proofs.YtpoeinajedbfoaaDoor
open Go Go.Am Go.RowKit Go.Mix Go.Bas
set_option maxRecDepth 100000
/-- lines -/
def shF (tx : V → List UInt8) : List V → List UInt8
  | [] => []
  | v :: l => tx v ++ [10] ++ shF tx l
/-- a Builder: fresh, or written to -/
def BlAt (B b : Nat) (l : List UInt8) (w : World) : Prop := (l = [] ∧ w.heap[b]? = some (.cells #[.pointer none, .slice none 0 0] 63 (0, 0))) ∨ (l ≠ [] ∧ Lib.IsBuilder 63 5 B b (Lib.byteCells l) w)
theorem BlAt.is {B b : Nat} {l : List UInt8} {w : World} (h : BlAt B b l w) (hB : B ≤ b) : Lib.IsBuilder 63 5 B b (Lib.byteCells l) w := by
  rcases h with ⟨rfl, h⟩ | ⟨_, h⟩
  · exact .inl ⟨hB, _, h, World.ownsRow_nil .., by simp [Value.ownBlock]⟩
  · exact h
theorem BlAt.step {B b : Nat} {l : List UInt8} {w w' : World} (h : BlAt B b l w) (hb : Below w.heap.size w w') : BlAt B b l w' := by
  rcases h with ⟨rfl, h⟩ | ⟨h1, h⟩
  · refine .inl ⟨rfl, (hb.block b ?_).trans h⟩
    rcases Nat.lt_or_ge b w.heap.size with h' | h'
    · exact h'
    · simp [Array.getElem?_eq_none h'] at h
  · exact .inr ⟨h1, isB_step h hb⟩
theorem bytes_app (l m : List UInt8) : Lib.byteCells (l ++ m) = Lib.byteCells l ++ Lib.strCells ⟨m.toArray⟩ := by simp [Lib.byteCells, Lib.strCells]
theorem blPut (B b : Nat) (l m : List UInt8) (w : World) (h : Lib.IsBuilder 63 5 B b (Lib.byteCells l) w) (hl : l.length + m.length ≤ 140737488355328) (hBw : B ≤ w.heap.size) :
    Calls Tryd.prog 46 #[.pointer (some ⟨b, 0, none⟩), .string ⟨m.toArray⟩] w fun e w' => (∃ x, e = .returned x) ∧ Lib.IsBuilder 63 5 B b (Lib.byteCells (l ++ m)) w' ∧ Below B w w' := by
  refine (blWrite B b _ ⟨m.toArray⟩ w h (by rw [Lib.byteCells_length]; show _ + m.toArray.size ≤ _; rw [List.size_toArray]; exact hl) hBw).mono ?_
  rintro e w' ⟨he, hB, hb⟩
  exact ⟨⟨_, he⟩, .inr (by rw [bytes_app]; exact hB), hb⟩
theorem wpList_ix {P : Program} {ops : Array Oper} {o : Oper} {a : Act} {w : World} {rest : List Oper} {Q : Exit → Act → World → Prop} (hg : o.guard = none) (v : Value) (t : TypeId) (x y : Operand) (p q : Value) (hop : o.op = .indexAddr t x y) (hx : a.eval x = p) (hy : a.eval y = q)
    (hrun : (Instr.indexAt t p q).run P w = .ok v w) (h : wpList P ops Q rest (a.put o.dst v) w) : wpList P ops Q (o :: rest) a w := by
  refine wpList_run hg (v := v) (w' := w) ?_ h
  unfold execOp
  simp only [hop, hx, hy, Sem.run_bind, Sem.run_pure, hrun, Result.andThen_ok]
theorem ev_at {O : Nat → Prop} {W : World} {l : List V} {c : Value} (hv : VRep no O W (.rows evSh l) c) {i : Nat} (hi : i < l.length) : ∃ d cs, (Instr.indexAt 35 c (.int .i64 i)).run Tryd.prog W = .ok d W ∧ (Instr.loadAt 42 d).run Tryd.prog W = .ok (.agg cs.toArray) W ∧ CRep no O W (evE (l.getD i .undef)) cs := by
  have h1 : indexV Tryd.prog 35 (.rows evSh l) i = some ⟨.vref evSh (eta evSh (l.getD i .undef)), inB i l.length, []⟩ := by
    have e : indexV Tryd.prog 35 (.rows evSh l) i = bif ixOkS Tryd.prog 35 evSh then some ⟨.vref evSh (eta evSh (l.getD (i : Int).toNat .undef)), inB i l.length, []⟩ else none := rfl
    rw [e, show ixOkS Tryd.prog 35 evSh = true by kernel_rfl, Int.toNat_natCast]
    rfl
  obtain ⟨d, r1, r2, _⟩ := op_index hv h1 (show Am.inB (i : Int) l.length = true from inB_t (by omega) (by omega))
  obtain ⟨b, off, ds, rfl, q1, q2, q3, q4, q5⟩ := r2.vref_inv
  obtain ⟨dv, r3, r4⟩ := load_rep (t := 42) (by kernel_rfl) (isR_isSh q1) q2 q5
  cases r4 with
  | one _ ha => cases ha
  | agg h _ => exact ⟨_, _, r1, r3, h⟩
set_option maxRecDepth 1000000 in
set_option maxHeartbeats 4000000 in
theorem show_calls (l : List V) (A : Option Addr) (n cap : Nat) (tx : V → List UInt8) (O : Nat → Prop) (w : World) (hO : OOk O w) (hv : VRep no O w (.rows evSh l) (.slice A n cap)) (hnl : n = l.length) (htx : ∀ i, i < l.length → SpecV Tryd.prog 17 [evE (l.getD i .undef)] (.str (tx (l.getD i .undef)))) (hln : ∀ i, i < l.length → (tx (l.getD i .undef)).length ≤ 100000) (hl : l.length ≤ 1000) :
    Calls Tryd.prog 19 #[.slice A n cap] w fun e w' => e = .returned (.string ⟨(shF tx l).toArray⟩) ∧ Below w.heap.size w w' := by
  subst hnl
  have hb0 : Below w.heap.size w (w.alloc (.cells #[.pointer none, .slice none 0 0] 63)) := (Below.refl _ _).alloc (Nat.le_refl _) _
  have hbl0 : BlAt w.heap.size w.heap.size [] (w.alloc (.cells #[.pointer none, .slice none 0 0] 63)) := .inl ⟨rfl, Array.getElem?_push_size⟩
  have HB0 := hid hb0
  have HL0 := hid hbl0
  have HV := hid hv
  have HT := hid htx
  clear hb0 hbl0 hv htx
  go_enter Tryd.func19, Tryd.ntmps19
  go_wp2
  go_loopw [8] (fun v wr => ∃ (i : Nat) (txt : List UInt8), v = .int .i64 i ∧ i ≤ l.length ∧ Below w.heap.size w wr ∧ Hid (BlAt w.heap.size w.heap.size txt wr) ∧ Hid (txt ++ shF tx (l.drop i) = shF tx l) ∧ txt.length ≤ 100001 * i) (fun v _ => l.length - (intOf v).toNat)
  case atStart => exact ⟨0, [], rfl, Nat.zero_le _, HB0.out, HL0, hid rfl, Nat.zero_le _⟩
  case round =>
    obtain ⟨i, txt, rfl, hi0, hbw, HW, HS, htl⟩ := hrel
    by_cases hi : i < l.length
    · have hi' : i < l.length := by omega
      obtain ⟨d, cs, e1, e2, e3⟩ := ev_at (HV.out.ext (ext_below hbw)) hi'
      have hcl : cs.length = 39 := CRep.len (s := evSh) rfl e3
      have hc1 : ∀ v ∈ cs, v.oneCell' = true := CRep.ones (s := evSh) rfl e3
      have hHT : Hid (shF tx (l.drop i) = tx (l.getD i .undef) ++ [10] ++ shF tx (l.drop (i + 1))) := hid (by rw [drop_next (d := .undef) hi']; rfl)
      have hlt := hln i hi'
      have HTX := hid (HT.out i hi')
      have E1 := hid e1
      have E2 := hid e2
      have E3 := hid e3
      have HI0 : Hid ((Tryd.prog.info? 42).map (·.size) = some cs.length) := hid (by rw [hcl]; kernel_rfl)
      have HN1 : Hid (0 + cs.length ≤ [Value.int .i64 0, Value.int .i64 0, Value.int .u8 0, Value.int .u8 0, Value.int .u8 0, Value.int .u8 0, Value.int .u8 0, Value.int .u8 0, Value.int .u8 0, Value.int .u8 0, Value.int .u8 0, Value.int .u8 0, Value.int .u8 0, Value.int .u8 0, Value.int .u8 0, Value.int .u8 0, Value.int .u8 0, Value.int .u8 0, Value.int .i64 0, Value.int .u8 0, Value.int .u8 0, Value.int .u8 0, Value.int .u8 0, Value.int .u8 0, Value.int .u8 0, Value.int .u8 0, Value.int .u8 0, Value.int .u8 0, Value.int .u8 0, Value.int .u8 0, Value.int .u8 0, Value.int .u8 0, Value.int .u8 0, Value.int .u8 0, Value.int .u8 0, Value.int .i64 0, Value.int .i64 0, Value.int .i64 0, Value.int .i64 0].length) := hid (by rw [hcl]; exact Nat.le_refl _)
      have H1 := hid hc1
      have hz : Blk (wr.alloc (.cells #[Value.int .i64 0, Value.int .i64 0, Value.int .u8 0, Value.int .u8 0, Value.int .u8 0, Value.int .u8 0, Value.int .u8 0, Value.int .u8 0, Value.int .u8 0, Value.int .u8 0, Value.int .u8 0, Value.int .u8 0, Value.int .u8 0, Value.int .u8 0, Value.int .u8 0, Value.int .u8 0, Value.int .u8 0, Value.int .u8 0, Value.int .i64 0, Value.int .u8 0, Value.int .u8 0, Value.int .u8 0, Value.int .u8 0, Value.int .u8 0, Value.int .u8 0, Value.int .u8 0, Value.int .u8 0, Value.int .u8 0, Value.int .u8 0, Value.int .u8 0, Value.int .u8 0, Value.int .u8 0, Value.int .u8 0, Value.int .u8 0, Value.int .u8 0, Value.int .i64 0, Value.int .i64 0, Value.int .i64 0, Value.int .i64 0] 42)) wr.heap.size 42 [Value.int .i64 0, Value.int .i64 0, Value.int .u8 0, Value.int .u8 0, Value.int .u8 0, Value.int .u8 0, Value.int .u8 0, Value.int .u8 0, Value.int .u8 0, Value.int .u8 0, Value.int .u8 0, Value.int .u8 0, Value.int .u8 0, Value.int .u8 0, Value.int .u8 0, Value.int .u8 0, Value.int .u8 0, Value.int .u8 0, Value.int .i64 0, Value.int .u8 0, Value.int .u8 0, Value.int .u8 0, Value.int .u8 0, Value.int .u8 0, Value.int .u8 0, Value.int .u8 0, Value.int .u8 0, Value.int .u8 0, Value.int .u8 0, Value.int .u8 0, Value.int .u8 0, Value.int .u8 0, Value.int .u8 0, Value.int .u8 0, Value.int .u8 0, Value.int .i64 0, Value.int .i64 0, Value.int .i64 0, Value.int .i64 0] := Blk.new_at _ _ _ rfl
      have HZ := hid hz
      generalize l.getD i .undef = v at hHT hlt HTX E3
      clear e1 e2 e3 hc1 hz
      go_wp2_with (with_reducible refine wpList_ix rfl d 35 (.tmp 6) (.tmp 8) (.slice A l.length cap) (.int .i64 (i : Int)) rfl rfl rfl E1.out ?_; refine stop ?_)
      refine Stop.on ?_
      go_wp2_with (with_reducible refine wpList_ld rfl (.agg cs.toArray) 42 (.tmp 10) d rfl rfl E2.out ?_; refine stop ?_)
      refine Stop.on ?_
      go_wp2_with (with_reducible refine Blk.wpList_st rfl 42 (.tmp 5) (.tmp 11) rfl (HZ.out) (g := wr.heap.size) (o := 0) rfl rfl HN1.out HI0.out H1.out ?_; refine stop ?_)
      refine Stop.on ?_
      refine wpl_name ?_; intro w1 hw1
      have hb1 : Blk w1 wr.heap.size 42 cs := by rw [hw1]; exact HZ.out.sets_all (by rw [hcl]; rfl)
      have hbr : Below wr.heap.size wr w1 := by rw [hw1]; exact below_setCells (Nat.le_refl _) _ 0 ((Below.refl _ _).alloc (Nat.le_refl _) _)
      have HLD : Hid ((Instr.loadAt 42 (.pointer (some ⟨wr.heap.size, 0, none⟩))).run Tryd.prog w1 = .ok (.agg cs.toArray) w1) := hid (hb1.ld_all Tryd.underlying42 rfl HI0.out)
      have hbw1 : Below w.heap.size w w1 := hbw.trans (hbr.mono hbw.size)
      have HW1 := hid (HW.out.step hbr)
      have HC1 := hid (VRep.agg (E3.out.ext (ext_below hbr)) (show (evE v).isAgg = true from rfl))
      clear hw1 hb1 HZ HN1 H1
      go_wp2_with (with_reducible refine wpList_ld rfl (.agg cs.toArray) 42 (.tmp 5) (.pointer (some ⟨wr.heap.size, 0, none⟩)) rfl rfl HLD.out ?_; refine stop ?_)
      refine Stop.on ?_
      go_wp2_with fail
      refine (spec_str HTX.out (ook_below hO hbw1) (.cons HC1.out .nil)).mono ?_
      rintro e w2 ⟨rfl, hb2⟩
      have hbw2 : Below w.heap.size w w2 := hbw1.trans (hb2.mono hbw1.size)
      have HW2 := hid (HW1.out.step hb2)
      clear hbr HW1 HC1 HLD
      go_wp2_with fail
      refine (blPut w.heap.size w.heap.size txt (tx v) w2 (HW2.out.is (Nat.le_refl _)) (by omega) hbw2.size).mono ?_
      rintro e w3 ⟨⟨x3, rfl⟩, hB3, hb3⟩
      have hbw3 : Below w.heap.size w w3 := hbw2.trans hb3
      have HB3 := hid hB3
      clear hB3 HW2
      go_wp2_with fail
      refine (blPut w.heap.size w.heap.size (txt ++ tx v) [10] w3 HB3.out (by rw [List.length_append, List.length_singleton]; omega) hbw3.size).mono ?_
      rintro e w4 ⟨⟨x4, rfl⟩, hB4, hb4⟩
      go_wp2
      go_roundw
      case rel =>
        refine ⟨i + 1, txt ++ tx v ++ [10], by rfl, by omega, hbw3.trans hb4, hid (.inr ⟨by simp, hB4⟩), hid ?_, ?_⟩
        · rw [← HS.out, hHT.out]; simp only [List.append_assoc]
        · rw [List.length_append, List.length_append, List.length_singleton]; omega
      case measure => simp only [intOf]; omega
    · have e : shF tx l = txt := by rw [← HS.out, List.drop_of_length_le (by omega)]; simp [shF]
      rcases HW.out with ⟨hnil, hk⟩ | ⟨hne, hB⟩
      · go_wp2_with fail
        refine (blStringNil w.heap.size w.heap.size _ _ hk).mono ?_
        rintro e' w2 ⟨rfl, hb2⟩
        go_wp2
        go_ret
        exact ⟨by rw [e, hnil]; rfl, hbw.trans hb2⟩
      · go_wp2_with fail
        refine (blString w.heap.size w.heap.size _ _ hB hne).mono ?_
        rintro e' w2 ⟨rfl, hb2⟩
        go_wp2
        go_ret
        exact ⟨by rw [e]; rfl, hbw.trans hb2⟩
end Go.Proofs.YtpoeinajedbfoaaDoor
