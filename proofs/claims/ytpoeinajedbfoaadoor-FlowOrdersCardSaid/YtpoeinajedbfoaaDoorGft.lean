/- Part Gft of the proof: laws used by the law of this claim. -/
import Derived.Maps.OwnSet
import Derived.WideKeyEntry
import Derived.DeepKeys5
import Derived.Maps.Views
import Derived.Lib.AppendZeros
import Derived.Test.YtpoeinajedbfoaaDoorGfs
import Derived.Test.YtpoeinajedbfoaaDoorGex
import Derived.Test.YtpoeinajedbfoaaDoorGfo
set_option linter.all false
namespace Go.Sort
end Go.Sort
namespace Go.Proofs.YtpoeinajedbfoaaDoor
open Go Go.RowKit Go.Mix Go.Bas Go.Sort
open Go.Am (V)
set_option maxRecDepth 100000
theorem foLaid : laidOutB Tryd.prog = true := by kernel_rfl
theorem fwLaw : WideMaps.KeyLaw Tryd.prog 40 := deep_law_gate foLaid (Nat.le_of_ble_eq_true (by kernel_rfl)) (Nat.le_of_ble_eq_true (by kernel_rfl)) (by kernel_rfl) (by kernel_rfl)
theorem fwKeyed : Go.Maps.Keyed Tryd.prog 40 := Go.Maps.Keyed.of_law fwLaw
theorem mapM_ex {α β : Type} {f : α → Option β} : ∀ (l : List α), (∀ i ∈ l, ∃ y, f i = some y) → ∃ ys, l.mapM f = some ys
  | [], _ => ⟨[], rfl⟩
  | x :: l, h => by
    obtain ⟨y, hy⟩ := h x (by simp)
    obtain ⟨ys, hys⟩ := mapM_ex l fun i hi => h i (by simp [hi])
    exact ⟨y :: ys, by simp [List.mapM_cons, hy, hys]⟩
theorem take_one {cs : List Value} {j : Nat} {v : Value} (h : cs[j]? = some v) : (cs.drop j).take 1 = [v] := by
  have hj : j < cs.length := (List.getElem?_eq_some_iff.1 h).1
  rw [List.drop_eq_getElem_cons hj]
  have := (List.getElem?_eq_some_iff.1 h).2
  simp [this]
theorem wf8 (x : UInt8) : (Lit.int .u8 (x.toNat : Int)).wf = true := by
  have := x.toNat_lt
  unfold Lit.wf
  simp only [Bool.and_eq_true, decide_eq_true_eq]
  exact ⟨by show (0 : Int) ≤ _; omega, by show _ ≤ (255 : Int); omega⟩
theorem wf64s {n : Int} (h1 : -9223372036854775808 ≤ n) (h2 : n ≤ 9223372036854775807) : (Lit.int .i64 n).wf = true := by
  unfold Lit.wf
  simp only [Bool.and_eq_true, decide_eq_true_eq]
  exact ⟨h1, h2⟩
theorem kl_addr (d : Nat) (a : List UInt8) (h : a.length = 16) : ∃ L, Tryd.prog.keyLits (d + 2) 38 (a.map bv) = some L := by
  have c1 : Tryd.prog.cellsOf 38 = 16 := by kernel_rfl
  have c2 : Tryd.prog.cellsOf 5 = 1 := by kernel_rfl
  unfold Program.keyLits
  simp only [Tryd.underlying38, c1, c2, List.length_map, h, if_true]
  obtain ⟨L, hL⟩ := mapM_ex (f := fun i => Tryd.prog.keyLits (d + 1) 5 (((a.map bv).drop (i * 1)).take 1)) (List.range 16) fun i hi => by
    have hi' : i < a.length := by rw [h]; exact List.mem_range.1 hi
    rw [Nat.mul_one, take_one (v := bv a[i]) (by rw [List.getElem?_map, List.getElem?_eq_getElem hi']; rfl)]
    unfold Program.keyLits
    simp only [Tryd.underlying5, bv]
    rw [if_pos (by first | exact ⟨rfl, wf8 _⟩ | exact ⟨trivial, wf8 _⟩)]
    exact ⟨_, rfl⟩
  rw [hL]
  exact ⟨_, rfl⟩
theorem kl_int (d : Nat) (n : Int) (h1 : -9223372036854775808 ≤ n) (h2 : n ≤ 9223372036854775807) : ∃ L, Tryd.prog.keyLits (d + 1) 3 [.int .i64 n] = some L := by
  unfold Program.keyLits
  simp only [Tryd.underlying3]
  rw [if_pos (by first | exact ⟨rfl, wf64s h1 h2⟩ | exact ⟨trivial, wf64s h1 h2⟩)]
  exact ⟨_, rfl⟩
/-- ports are what the machine holds -/
def fwRg (v : V) : Bool := decide ((-9223372036854775808 ≤ fw1 v ∧ fw1 v ≤ 9223372036854775807) ∧ -9223372036854775808 ≤ fw3 v ∧ fw3 v ≤ 9223372036854775807)
theorem kl_flow (d : Nat) (x : FwT) (h : fwRg x.1 = true) : ∃ L, Tryd.prog.keyLits (d + 3) 40 (fwC x) = some L := by
  obtain ⟨⟨h1, h2⟩, h3, h4⟩ := of_decide_eq_true h
  obtain ⟨q1, q2⟩ := fwOk_of x.2.2
  have c0 : Tryd.prog.cellsOf 40 = 34 := by kernel_rfl
  have c1 : Tryd.prog.cellsOf 38 = 16 := by kernel_rfl
  have c2 : Tryd.prog.cellsOf 3 = 1 := by kernel_rfl
  unfold Program.keyLits
  simp only [Tryd.underlying40, c0, fwC_len]
  rw [if_pos ⟨trivial, by kernel_rfl⟩]
  have m1 : ∃ y, Tryd.prog.keyLits (d + 2) 38 (List.take (Tryd.prog.cellsOf 38) (List.drop 0 (fwC x))) = some y := by
    rw [c1]; unfold fwC; rw [flC_ps q1]; exact kl_addr d _ q1
  have m2 : ∃ y, Tryd.prog.keyLits (d + 2) 3 (List.take (Tryd.prog.cellsOf 3) (List.drop 16 (fwC x))) = some y := by
    rw [c2]; unfold fwC; rw [take_one (flC_sp q1)]; exact kl_int (d + 1) _ h1 h2
  have m3 : ∃ y, Tryd.prog.keyLits (d + 2) 38 (List.take (Tryd.prog.cellsOf 38) (List.drop 17 (fwC x))) = some y := by
    rw [c1]; unfold fwC; rw [flC_pd q1 q2]; exact kl_addr d _ q2
  have m4 : ∃ y, Tryd.prog.keyLits (d + 2) 3 (List.take (Tryd.prog.cellsOf 3) (List.drop 33 (fwC x))) = some y := by
    rw [c2]; unfold fwC; rw [take_one (flC_dp q1 q2)]; exact kl_int (d + 1) _ h3 h4
  obtain ⟨y1, m1⟩ := m1
  obtain ⟨y2, m2⟩ := m2
  obtain ⟨y3, m3⟩ := m3
  obtain ⟨y4, m4⟩ := m4
  simp only [List.mapM_cons, List.mapM_nil, m1, m2, m3, m4]
  exact ⟨_, rfl⟩
theorem tsz : ∃ m, Tryd.prog.types.size + 1 = m + 3 := ⟨Tryd.prog.types.size - 2, by kernel_rfl⟩
theorem fwKey_ex (x : FwT) (h : fwRg x.1 = true) : ∃ kl, keyOf Tryd.prog 40 (.agg (fwC x).toArray) = some kl := by
  obtain ⟨m, hm⟩ := tsz
  obtain ⟨L, hL⟩ := kl_flow m x h
  have hk : Tryd.prog.keyType 40 = true := by kernel_rfl
  have c0 : Tryd.prog.cellsOf 40 = 34 := by kernel_rfl
  have hf : (Value.agg (fwC x).toArray).formed Tryd.prog 40 = true := by
    unfold Value.formed
    simp only [Tryd.underlying40, c0, List.size_toArray, fwC_len]
    rfl
  unfold keyOf
  simp only [Tryd.underlying40, hk, hf, Bool.and_self, if_true, hm]
  have e : (Value.agg (fwC x).toArray).cells.toList = fwC x := rfl
  rw [e, hL]
  exact ⟨_, rfl⟩
noncomputable def fwKey (x : FwT) : Lit := (keyOf Tryd.prog 40 (.agg (fwC x).toArray)).getD (.bool false)
theorem fwKey_eq {x : FwT} (h : fwRg x.1 = true) : keyOf Tryd.prog 40 (.agg (fwC x).toArray) = some (fwKey x) := by
  obtain ⟨kl, e⟩ := fwKey_ex x h
  unfold fwKey
  rw [e]; rfl
theorem bvs_inj {a b : List UInt8} (h : a.map bv = b.map bv) : a = b :=
  List.map_inj_right (f := bv) (fun x y e => by unfold bv at e; injection e with _ e; exact UInt8.toNat_inj.mp (by omega)) |>.mp h
theorem fwC_inj {x y : FwT} (h : fwC x = fwC y) : x = y := by
  obtain ⟨x1, x2⟩ := fwOk_of x.2.2
  obtain ⟨y1, y2⟩ := fwOk_of y.2.2
  unfold fwC flC at h
  obtain ⟨e1, h⟩ := List.append_inj h (by simp [x1, y1])
  injection h with e2 h
  injection e2 with _ e2
  obtain ⟨e3, h⟩ := List.append_inj h (by simp [x2, y2])
  injection h with e4 _
  injection e4 with _ e4
  apply Subtype.ext
  rw [← x.2.1, ← y.2.1, fwE_eq, fwE_eq, bvs_inj e1, e2, bvs_inj e3, e4]
theorem fwKey_inj {x y : FwT} (hx : fwRg x.1 = true) (hy : fwRg y.1 = true) (h : fwKey x = fwKey y) : x = y := by
  have e := fwKeyed.inj (fwKey_eq hx) (by rw [h]; exact fwKey_eq hy)
  injection e with e
  exact fwC_inj (by simpa using e)
end Go.Proofs.YtpoeinajedbfoaaDoor

namespace Go.Sort
end Go.Sort
namespace Go.Proofs.YtpoeinajedbfoaaDoor
open Go Go.RowKit Go.Mix Go.Bas Go.Sort
open Go.Am (V)
open Go.ChangeMaps (setBlock heap_setBlock_same heap_setBlock_other)
open Go.WideElems (Fit rg)
set_option maxRecDepth 100000
section
variable {H : Type} {P : Program} {k : TypeId} {R : Value → Option (DataW H × List MemPlace)} {w : World} {b n : Nat} {D : DataW H}
theorem owns_blk {w' : World} (h : w.ownsMap P k R b n D) (hb : w'.heap[b]? = w.heap[b]?) : w'.ownsMap P k R b n D := by
  obtain ⟨es, clock, h1, r⟩ := h
  exact ⟨es, clock, hb.trans h1, r⟩
theorem setB_same (h : ∃ o, w.heap[b]? = some o) (o : Obj) : (setBlock w b o).heap[b]? = some o := by
  obtain ⟨o', h⟩ := h
  have hlt := (Array.getElem?_eq_some_iff.1 h).1
  simp [setBlock, Array.getElem?_setIfInBounds, hlt]
theorem grown_setB (o : Obj) : w.grownBy (setBlock w b o) (some b) :=
  ⟨rfl, rfl, rfl, by simp [setBlock], fun i _ hi => by
    have hne : b ≠ i := fun e => hi (by rw [e])
    simp [setBlock, Array.getElem?_setIfInBounds, hne]⟩
theorem entry_own {t e : TypeId} (h : w.ownsMap P k R b n D) (K : WideMaps.KeyLaw P k) (ht : P.underlying t = some (.map k e)) {z : Value} (hz : ∀ u : World, (zeroValue e).run P u = .ok z u) (hn : n < maxLen) {key : Value} {kl : Lit} (hkey : keyOf P k key = some kl) {zd : DataW H} {zp : List MemPlace} (hzR : R z = some (zd, zp)) :
    ∃ (v0 : Value) (st : Nat) (D1 : DataW H) (w1 : World), (Instr.mapEntry t (.map (some b)) key).run P w = .ok (.tuple #[v0, goInt st]) w1 ∧ w1.ownsMap P k R b (n + 1) D1 ∧ w.grownBy w1 (some b) ∧ (D1 = D ∨ D1 = D.put kl zd ∧ D.atKey kl zd = zd) ∧
      ∀ (w2 : World) (val : Value) (d : DataW H) (ps : List MemPlace), R val = some (d, ps) → w2.heap[b]? = w1.heap[b]? → ∃ w3, (Instr.entryStore t (.map (some b)) (goInt st) val).run P w2 = .ok () w3 ∧ w3.ownsMap P k R b (n + 1) (D.put kl d) ∧ w2.grownBy w3 (some b) := by
  have h' := h
  obtain ⟨es, clock, hb, F, hs, hD⟩ := h
  have KK := Go.Maps.Keyed.of_law K
  obtain ⟨v0, st, es1, clock1, r1, r2, r3⟩ := Go.WideElems.entry_then_store K ht hz hb F hkey
  have hblk : (setBlock w b (.map es1 clock1)).heap[b]? = some (.map es1 clock1) := heap_setBlock_same hb _
  have store : ∀ (w2 : World) (val : Value) (d : DataW H) (ps : List MemPlace), R val = some (d, ps) → w2.heap[b]? = (setBlock w b (.map es1 clock1)).heap[b]? → ∃ w3, (Instr.entryStore t (.map (some b)) (goInt st) val).run P w2 = .ok () w3 ∧ w3.ownsMap P k R b (n + 1) (D.put kl d) ∧ w2.grownBy w3 (some b) := by
    intro w2 val d ps hv hw2
    rw [hblk] at hw2
    obtain ⟨es', clock', q1, q2⟩ := r3 w2 val hw2
    obtain ⟨w', u1, u2, u3⟩ := h'.update KK ht hn hkey hv
    rw [q2] at u1
    injection u1 with _ u1
    subst u1
    refine ⟨_, q1, owns_blk u2 ?_, grown_setB _⟩
    rw [setB_same ⟨_, hw2⟩, setB_same ⟨_, hb⟩]
  rcases K.find w hkey es.toList F.keys with ⟨h1, h2⟩ | ⟨j, e0, h1, h2, h3⟩
  · have hr : (Instr.mapEntry t (.map (some b)) key).run P w = .ok (.tuple #[z, goInt clock]) (setBlock w b (.map (es.push ⟨key, z, clock⟩) (clock + 1))) := by
      simp [Instr.mapEntry, run_underlying ht, MapKept.run_getObj_map hb, K.check w false hkey, h1, hz, MapKept.run_setObj_map _ hb, Result.andThen, setBlock]
    have hu : (Instr.mapUpdate t (.map (some b)) key z).run P w = .ok () (setBlock w b (.map (es.push ⟨key, z, clock⟩) (clock + 1))) := by
      simp [Instr.mapUpdate, run_underlying ht, MapKept.run_getObj_map hb, K.check w false hkey, h1, MapKept.run_setObj_map _ hb, Result.andThen, setBlock]
    obtain ⟨w', u1, u2, u3⟩ := h'.update KK ht hn hkey hzR
    rw [hu] at u1
    injection u1 with _ u1
    have e : setBlock w b (.map es1 clock1) = w' := by
      rw [r1] at hr
      injection hr with _ hr
      rw [hr, u1]
    refine ⟨v0, st, _, _, r1, owns_blk u2 (by rw [e]), grown_setB _, .inr ⟨rfl, ?_⟩, store⟩
    obtain ⟨hrun, _, hat⟩ | ⟨e0, y, g1, g2, _⟩ := Go.Maps.fit_look (H := H) false KK ht (hz w) hb F hkey
    · rw [hD]; exact hat zd
    · exact absurd g2 (h2 e0 g1)
  · have hj : es[j]? = some e0 := by simpa using h2
    have hsame : es.modify j (fun e => { e with key := key }) = es := by
      apply Array.ext'
      rw [Array.toList_modify, Go.ChangeMaps.modify_eq_set _ _ _ _ h2]
      have : ({ e0 with key := key } : MapEntry) = e0 := by rw [← h3]
      rw [this]
      exact Go.WideElems.set_self _ _ _ h2
    have hr : (Instr.mapEntry t (.map (some b)) key).run P w = .ok (.tuple #[e0.val, goInt e0.born]) (setBlock w b (.map es clock)) := by
      simp [Instr.mapEntry, run_underlying ht, MapKept.run_getObj_map hb, K.check w false hkey, h1, hj, h3, K.stays w hkey, hsame, MapKept.run_setObj_map _ hb, Result.andThen, setBlock]
    have e : setBlock w b (.map es1 clock1) = setBlock w b (.map es clock) := by
      rw [r1] at hr
      injection hr
    refine ⟨v0, st, D, _, r1, (owns_blk h' ?_).mono (Nat.le_succ _), grown_setB _, .inl rfl, store⟩
    rw [e, setB_same ⟨_, hb⟩, hb]
end
end Go.Proofs.YtpoeinajedbfoaaDoor

namespace Go.Sort
end Go.Sort
namespace Go.Proofs.YtpoeinajedbfoaaDoor
open Go Go.RowKit Go.Mix Go.Bas Go.Sort
open Go.Am (V)
set_option maxRecDepth 100000
open Classical in
/-- how often -/
noncomputable def cntF (x : FwT) (l : List FwT) : Nat := l.countP fun y => decide (y = x)
theorem cntF_snoc (x y : FwT) (l : List FwT) : cntF x (l ++ [y]) = cntF x l + (open Classical in if y = x then 1 else 0) := by
  unfold cntF
  rw [List.countP_append, List.countP_singleton]
  by_cases h : y = x <;> simp [h]
theorem cntF_zero (x : FwT) (l : List FwT) : cntF x l = 0 ↔ x ∉ l := by
  unfold cntF
  rw [List.countP_eq_zero]
  constructor
  · intro h hm
    exact h x hm (by simp)
  · intro h y hy e
    have : y = x := by simpa using e
    exact h (this ▸ hy)
theorem cntF_le (x : FwT) (l : List FwT) : cntF x l ≤ l.length := List.countP_le_length
abbrev fD (n : Int) : DataW Unit := .lit (.int .i64 n)
abbrev MTy : TypeId := 93
def MpAt (w : World) (b : Nat) (l : List FwT) : Prop := ∃ D n, w.ownsMap Tryd.prog 40 (plainElem (H := Unit) Tryd.prog 3) b n D ∧ n ≤ l.length ∧ Go.Maps.IsMap D ∧ ∀ x : FwT, fwRg x.1 = true → D.atKey (fwKey x) (fD 0) = fD (cntF x l)
theorem MpAt.blk {w w' : World} {b : Nat} {l : List FwT} (h : MpAt w b l) (hb : w'.heap[b]? = w.heap[b]?) : MpAt w' b l := by
  obtain ⟨D, n, h1, r⟩ := h
  exact ⟨D, n, owns_blk h1 hb, r⟩
theorem MpAt.lt {w : World} {b : Nat} {l : List FwT} (h : MpAt w b l) : b < w.heap.size := by
  obtain ⟨D, n, h1, r⟩ := h
  exact h1.lt
theorem MpAt.made (w : World) : MpAt (w.alloc (.map #[] 0)) w.heap.size [] :=
  ⟨_, 0, World.ownsMap_made w _ _ _, Nat.le_refl _, Go.Maps.isMap_empty, fun x _ => rfl⟩
theorem cnt_wf {n : Nat} (h : n ≤ 1000000) : (Lit.int .i64 (n : Int)).wf = true := wf64s (by omega) (by omega)
theorem look_own {w : World} {b n : Nat} {D : DataW Unit} (h : w.ownsMap Tryd.prog 40 (plainElem (H := Unit) Tryd.prog 3) b n D) {x : FwT} (hx : fwRg x.1 = true) {c : Nat} (hc : D.atKey (fwKey x) (fD 0) = fD c) :
    (Instr.lookup MTy (.map (some b)) (.agg (fwC x).toArray) false).run Tryd.prog w = .ok (.int .i64 c) w := by
  obtain ⟨c', r, e, _⟩ := h.lookup_int fwKeyed Tryd.underlying93 Tryd.underlying3 (Tryd.zeroValue3 w) (fwKey_eq hx)
  rw [hc] at e
  injection e with e
  injection e with _ e
  rw [r, ← e]
theorem MpAt.look {w : World} {b : Nat} {l : List FwT} (h : MpAt w b l) {x : FwT} (hx : fwRg x.1 = true) : (Instr.lookup MTy (.map (some b)) (.agg (fwC x).toArray) false).run Tryd.prog w = .ok (.int .i64 (cntF x l)) w := by
  obtain ⟨D, n, h1, h2, h3, h4⟩ := h
  exact look_own h1 hx (h4 x hx)
theorem MpAt.bump {w : World} {b : Nat} {l : List FwT} (h : MpAt w b l) {x : FwT} (hx : fwRg x.1 = true) (hl : l.length < 1000000) :
    ∃ (v0 : Value) (st : Nat) (w1 : World), (Instr.mapEntry MTy (.map (some b)) (.agg (fwC x).toArray)).run Tryd.prog w = .ok (.tuple #[v0, goInt st]) w1 ∧ w.grownBy w1 (some b) ∧
      (Instr.lookup MTy (.map (some b)) (.agg (fwC x).toArray) false).run Tryd.prog w1 = .ok (.int .i64 (cntF x l)) w1 ∧
      ∃ w3, (Instr.entryStore MTy (.map (some b)) (goInt st) (.int .i64 ((cntF x l : Int) + 1))).run Tryd.prog w1 = .ok () w3 ∧ MpAt w3 b (l ++ [x]) ∧ w1.grownBy w3 (some b) := by
  obtain ⟨D, n, h1, h2, h3, h4⟩ := h
  have he := Tryd.underlying3
  have hc := cntF_le x l
  obtain ⟨v0, st, D1, w1, r1, o1, g1, d1, r2⟩ := entry_own (e := 3) h1 fwLaw Tryd.underlying93 (fun u => Tryd.zeroValue3 u) (by unfold maxLen; omega) (fwKey_eq hx) (plainElem_int he (show (Lit.int .i64 0).wf = true by decide))
  obtain ⟨w3, q1, q2, q3⟩ := r2 w1 (.int .i64 (cntF x l + 1 : Nat)) _ _ (plainElem_int he (cnt_wf (by omega))) rfl
  have hk := fwKeyed.key (fwKey_eq hx)
  refine ⟨v0, st, w1, r1, g1, look_own o1 hx ?_, w3, q1, ⟨_, _, q2, by simp; omega, h3.put _ _, fun y hy => ?_⟩, q3⟩
  · rcases d1 with rfl | ⟨rfl, hz⟩
    · exact h4 x hx
    · rw [Go.Maps.atKey_put_same h3 hk, ← hz]
      exact h4 x hx
  · by_cases e : y = x
    · subst e
      rw [Go.Maps.atKey_put_same h3 hk, cntF_snoc, if_pos rfl]
    · rw [Go.Maps.atKey_put_other (fun h => e (fwKey_inj hy hx h)), cntF_snoc, if_neg (fun h => e h.symm), Nat.add_zero]
      exact h4 y hy
end Go.Proofs.YtpoeinajedbfoaaDoor

namespace Go.Sort
end Go.Sort
namespace Go.Proofs.YtpoeinajedbfoaaDoor
open Go Go.RowKit Go.Mix Go.Bas Go.Sort
open Go.Am (V)
set_option maxRecDepth 100000
theorem wpList_bs {P : Program} {ops : Array Oper} {o : Oper} {a : Act} {w w' : World} {rest : List Oper} {Q : Exit → Act → World → Prop} (hg : o.guard = none) (v : Value) (t : TypeId) (n i : Nat) (x : Operand) (u : Value) (hop : o.op = .buildSlice t n #[(i, x)]) (hx : a.eval x = u)
    (hrun : (Instr.buildSlice t n #[(i, u)]).run P w = .ok v w') (h : wpList P ops Q rest (a.put o.dst v) w') : wpList P ops Q (o :: rest) a w := by
  refine wpList_run hg (v := v) (w' := w') ?_ h
  unfold execOp
  simp only [hop]
  have e : (#[(i, x)].map fun p : Nat × Operand => (p.1, a.eval p.2)) = #[(i, u)] := by simp [hx]
  simp only [Sem.run_bind, Sem.run_pure, List.map_toArray, List.map_cons, List.map_nil, hx, hrun, Result.andThen_ok]
theorem foEl : Go.Am.elOf Tryd.prog 50 fwSh = some (40, 48) := by kernel_rfl
theorem bs_one (x : FwT) (w : World) : (Instr.buildSlice 50 1 #[(0, .agg (fwC x).toArray)]).run Tryd.prog w = .ok (.slice (some ⟨w.heap.size, 0, none⟩) 1 1) (w.alloc (.cells (fwC x).toArray 40)) := by
  refine Go.Am.run_buildSlice (sh := fwSh) (b := 48) foEl (by kernel_rfl) (by decide) ?_
  have h := Go.Am.fill_step (place := fun i => some (i * fwSh.size, fwSh.size)) (pre := []) (cs := Go.Am.zeroC fwSh) (post := []) (zs := fwC x) (j := 0) (off := 0) (size := 34) (c := .agg (fwC x).toArray) (r := []) rfl rfl rfl rfl (fwC_len x)
  rw [List.append_nil, List.append_nil, List.nil_append, List.nil_append] at h
  have e : (List.replicate 1 (Go.Am.zeroC fwSh)).flatten = Go.Am.zeroC fwSh := by simp
  rw [e]
  exact h.trans Go.Am.fill_nil
theorem src_one (x : FwT) {w : World} {g : Nat} (h : Blk w g 40 (fwC x)) : Go.Am.Src w 1 fwSh.size (.slice (some ⟨g, 0, none⟩) 1 1) (fwC x) :=
  ⟨⟨_, _, rfl⟩, fwC_len x, fwC_one x, fun _ => ⟨_, _, rfl, fun j u hj => by
    rw [add_lit0, Nat.zero_add]
    exact h.cell (j := j) hj⟩⟩
theorem srt_pw (out : List FwT) (hn : out.Nodup) : (out.mergeSort fun x y => !fwLt y.1 x.1).Pairwise fun u v => fwLt u.1 v.1 = true := by
  have h1 : (out.mergeSort fun x y => !fwLt y.1 x.1).Pairwise fun x y => (!fwLt y.1 x.1) = true := List.pairwise_mergeSort (fun a b c h1 h2 => by
    have h1 : fwLt b.1 a.1 = false := by simpa using h1
    have h2 : fwLt c.1 b.1 = false := by simpa using h2
    have := fwCf_swo.ntrans c b a (by rw [fwCf_lt]; exact h2) (by rw [fwCf_lt]; exact h1)
    rw [fwCf_lt] at this
    rw [this]; rfl) (fun a b => by
    cases h : fwLt b.1 a.1 with
    | false => rfl
    | true =>
      cases h' : fwLt a.1 b.1 with
      | false => rfl
      | true => have := fwLt_trans a.2.2 b.2.2 a.2.2 h' h; rw [fwLt_irr] at this; cases this) out
  have h2 : (out.mergeSort fun x y => !fwLt y.1 x.1).Nodup := (List.mergeSort_perm out _).nodup_iff.2 hn
  refine (List.Pairwise.and h1 h2).imp ?_
  rintro u v ⟨p, q⟩
  have p : fwLt v.1 u.1 = false := by simpa using p
  cases h : fwLt u.1 v.1 with
  | true => rfl
  | false => exact absurd (fwCf_tot u v (by rw [fwCf_lt]; exact h) (by rw [fwCf_lt]; exact p)) q
set_option maxRecDepth 1000000 in
set_option maxHeartbeats 4000000 in
theorem ord_calls (A : Option Addr) (c : Nat) (dl : List FwT) (w : World) (hI : ∀ W, Below w.heap.size w W → ∀ i (hi : i < dl.length), ∃ d, (Instr.indexAt 50 (.slice A dl.length c) (.int .i64 i)).run Tryd.prog W = .ok d W ∧ (Instr.loadAt 40 d).run Tryd.prog W = .ok (.agg (fwC dl[i]).toArray) W) (hl : dl.length ≤ 1000) (hrg : ∀ x ∈ dl, fwRg x.1 = true) :
    Calls Tryd.prog 54 #[.slice A dl.length c, .func (.func 28) #[] #[]] w fun e w' => ∃ (A' : Option Addr) (c' : Nat) (M : List FwT), e = .returned (.slice A' M.length c') ∧ w'.ownsRow w.heap.size 40 34 (.slice A' M.length c') M.length (M.flatMap fwC) ∧ Below w.heap.size w w' ∧ M.Pairwise (fun u v => fwLt u.1 v.1 = true) ∧ (∀ x, x ∈ M ↔ x ∈ dl) ∧ M.length ≤ dl.length := by
  have hmm := @run_makeMap Tryd.prog
  have hb0 : ∀ T, Below w.heap.size w ((w.alloc (.cells #[.func (.func 28) #[] #[]] T)).alloc (.map #[] 0)) := fun T => ((Below.refl _ _).alloc (Nat.le_refl _) _).alloc (by simp) _
  have hmp : ∀ T, MpAt ((w.alloc (.cells #[.func (.func 28) #[] #[]] T)).alloc (.map #[] 0)) (w.heap.size + 1) [] := fun T => by
    have h := MpAt.made (w.alloc (.cells #[.func (.func 28) #[] #[]] T))
    have e : (w.alloc (.cells #[.func (.func 28) #[] #[]] T)).heap.size = w.heap.size + 1 := by rw [World.size_alloc]
    rwa [e] at h
  have hkk : ∀ T, ((w.alloc (.cells #[.func (.func 28) #[] #[]] T)).alloc (.map #[] 0)).cell? ⟨w.heap.size, 0, none⟩ = some (.func (.func 28) #[] #[]) := fun T => ((Blk.new_at w T [.func (.func 28) #[] #[]] rfl).alloc _).cell (j := 0) rfl
  have HB0 := hid hb0
  have HM0 := hid hmp
  have HK0 := hid hkk
  have HI := hid hI
  have HR := hid hrg
  clear hb0 hmp hkk hI hrg
  go_enter Tryd.func54, Tryd.ntmps54
  go_wp2
  go_loopw [6, 12] (fun o k wr => ∃ (i : Nat) (A' : Option Addr) (c' : Nat) (out : List FwT), k = .int .i64 i ∧ i ≤ dl.length ∧ o = .slice A' out.length c' ∧ Below w.heap.size w wr ∧ Hid (wr.ownsRow (w.heap.size + 2) 40 34 (.slice A' out.length c') out.length (out.flatMap fwC)) ∧ Hid (MpAt wr (w.heap.size + 1) (dl.take i)) ∧ Hid (wr.cell? ⟨w.heap.size, 0, none⟩ = some (.func (.func 28) #[] #[])) ∧ Hid (out.Nodup ∧ (∀ x, x ∈ out ↔ x ∈ dl.take i)) ∧ out.length ≤ i) (fun _ k _ => dl.length - (intOf k).toNat)
  case atStart => exact ⟨0, none, 0, [], rfl, Nat.zero_le _, rfl, HB0.out _, hid (World.ownsRow_nil _ _ _ _), hid (HM0.out _), hid (HK0.out _), hid ⟨List.nodup_nil, by simp⟩, Nat.le_refl _⟩
  case round =>
    obtain ⟨i, A', c', out, rfl, hi0, rfl, hbw, HO, HM, HK, HN, hol⟩ := hrel
    by_cases hi : i < dl.length
    · have hi' : i < dl.length := hi
      obtain ⟨d, e1, e2⟩ := HI.out wr hbw i hi'
      have HT : Hid (dl.take (i + 1) = dl.take i ++ [dl[i]]) := hid (List.take_succ_eq_append_getElem hi')
      have HRX : Hid (fwRg (dl[i]).1 = true) := hid (HR.out _ (List.getElem_mem hi'))
      generalize dl[i] = x at e2 HT HRX
      have hcl : (fwC x).length = 34 := fwC_len x
      have hc1 := fwC_one x
      have E1 := hid e1
      have E2 := hid e2
      have HI0 : Hid ((Tryd.prog.info? 40).map (·.size) = some (fwC x).length) := hid (by rw [hcl]; kernel_rfl)
      have HN1 : Hid (0 + (fwC x).length ≤ [Value.int .u8 0, Value.int .u8 0, Value.int .u8 0, Value.int .u8 0, Value.int .u8 0, Value.int .u8 0, Value.int .u8 0, Value.int .u8 0, Value.int .u8 0, Value.int .u8 0, Value.int .u8 0, Value.int .u8 0, Value.int .u8 0, Value.int .u8 0, Value.int .u8 0, Value.int .u8 0, Value.int .i64 0, Value.int .u8 0, Value.int .u8 0, Value.int .u8 0, Value.int .u8 0, Value.int .u8 0, Value.int .u8 0, Value.int .u8 0, Value.int .u8 0, Value.int .u8 0, Value.int .u8 0, Value.int .u8 0, Value.int .u8 0, Value.int .u8 0, Value.int .u8 0, Value.int .u8 0, Value.int .u8 0, Value.int .i64 0].length) := hid (by rw [hcl]; exact Nat.le_refl _)
      have H1 := hid hc1
      have hz : Blk (wr.alloc (.cells #[Value.int .u8 0, Value.int .u8 0, Value.int .u8 0, Value.int .u8 0, Value.int .u8 0, Value.int .u8 0, Value.int .u8 0, Value.int .u8 0, Value.int .u8 0, Value.int .u8 0, Value.int .u8 0, Value.int .u8 0, Value.int .u8 0, Value.int .u8 0, Value.int .u8 0, Value.int .u8 0, Value.int .i64 0, Value.int .u8 0, Value.int .u8 0, Value.int .u8 0, Value.int .u8 0, Value.int .u8 0, Value.int .u8 0, Value.int .u8 0, Value.int .u8 0, Value.int .u8 0, Value.int .u8 0, Value.int .u8 0, Value.int .u8 0, Value.int .u8 0, Value.int .u8 0, Value.int .u8 0, Value.int .u8 0, Value.int .i64 0] 40)) wr.heap.size 40 [Value.int .u8 0, Value.int .u8 0, Value.int .u8 0, Value.int .u8 0, Value.int .u8 0, Value.int .u8 0, Value.int .u8 0, Value.int .u8 0, Value.int .u8 0, Value.int .u8 0, Value.int .u8 0, Value.int .u8 0, Value.int .u8 0, Value.int .u8 0, Value.int .u8 0, Value.int .u8 0, Value.int .i64 0, Value.int .u8 0, Value.int .u8 0, Value.int .u8 0, Value.int .u8 0, Value.int .u8 0, Value.int .u8 0, Value.int .u8 0, Value.int .u8 0, Value.int .u8 0, Value.int .u8 0, Value.int .u8 0, Value.int .u8 0, Value.int .u8 0, Value.int .u8 0, Value.int .u8 0, Value.int .u8 0, Value.int .i64 0] := Blk.new_at _ _ _ rfl
      have HZ := hid hz
      clear e1 e2 hc1 hz
      go_wp2_with (with_reducible refine wpList_ix rfl d 50 (.tmp 10) (.tmp 12) (.slice A dl.length c) (.int .i64 (i : Int)) rfl rfl rfl E1.out ?_; refine stop ?_)
      refine Stop.on ?_
      go_wp2_with (with_reducible refine wpList_ld rfl (.agg (fwC x).toArray) 40 (.tmp 14) d rfl rfl E2.out ?_; refine stop ?_)
      refine Stop.on ?_
      go_wp2_with (with_reducible refine Blk.wpList_st rfl 40 (.tmp 8) (.tmp 15) rfl (HZ.out) (g := wr.heap.size) (o := 0) rfl rfl HN1.out HI0.out H1.out ?_; refine stop ?_)
      refine Stop.on ?_
      refine wpl_name ?_; intro w1 hw1
      have hb1 : Blk w1 wr.heap.size 40 (fwC x) := by rw [hw1]; exact HZ.out.sets_all (by rw [hcl]; rfl)
      have hbr : Below wr.heap.size wr w1 := by rw [hw1]; exact below_setCells (Nat.le_refl _) _ 0 ((Below.refl _ _).alloc (Nat.le_refl _) _)
      have HBR := hid hbr
      have HB1 := hid hb1
      have hm1 : MpAt w1.drew (w.heap.size + 1) (dl.take i) := HM.out.blk (hbr.block _ HM.out.lt)
      obtain ⟨v0, st, w2, r1, g1, r2, w3, r3, m3, g3⟩ := hm1.bump HRX.out (by rw [List.length_take]; omega)
      have r0 := hm1.look HRX.out
      have hcw := cntF_le x (dl.take i)
      rw [List.length_take] at hcw
      generalize hcq : cntF x (dl.take i) = cq at r0 r2 r3 hcw
      have HCQ := hid hcq
      change (Instr.entryStore 93 (.map (some (w.heap.size + 1))) (.int .i64 (st : Int)) (.int .i64 ((cq : Int) + 1))).run Tryd.prog w2 = .ok () w3 at r3
      have hlm : w.heap.size + 1 < wr.heap.size := HM.out.lt
      have k2 : w2.heap[wr.heap.size]? = w1.heap[wr.heap.size]? := g1.block _ hb1.lt (by intro e; injection e with e; omega)
      have f0 : ∀ u : Cls (fun W => W.heap[wr.heap.size]? = w1.heap[wr.heap.size]?), (Instr.loadAt 40 (.pointer (some ⟨wr.heap.size, 0, none⟩))).run Tryd.prog u.w = .ok (.agg (fwC x).toArray) u.w := fun u => by
        have hbu : Blk u.w wr.heap.size 40 (fwC x) := u.is.trans hb1
        exact hbu.ld_all Tryd.underlying40 rfl HI0.out
      have hne : Nonempty (Cls (fun W : World => W.heap[wr.heap.size]? = w1.heap[wr.heap.size]?)) := Cls.ne (w := w1) rfl
      have HG := hid (And.intro g1 (And.intro m3 g3))
      clear hw1 hb1 hbr hm1 HZ HN1 H1 g1 m3 g3 hcq
      go_wp2_with fail
      refine wp_region_fork4 (fun wq => ∃ u : Cls (fun W : World => W.heap[wr.heap.size]? = w1.heap[wr.heap.size]?), wq = u.w) [(0, 0), (1, 0)] 2 3 4 5 [(6, 1)] (by kernel_rfl) (by kernel_rfl) (by kernel_rfl) (by kernel_rfl) (inC rfl) ?_
      refine seg_held _ rfl ?_
      go_big_quiet_step (fail)
      refine wpQuiet_nil ?_
      refine seg_held _ rfl ?_
      refine Go.BigFrame.wpQuiet_want rfl ?_
      intro K hK
      refine quiet_ld (.agg (fwC x).toArray) 40 (.tmp 8) (.pointer (some ⟨wr.heap.size, 0, none⟩)) rfl rfl (fun _ ⟨u, e⟩ => by rw [e]; exact f0 u) (hK _ ?_)
      clear hK K
      refine wpQuiet_nil ?_
      refine seg_nil ?_
      try go_frame
      have k1 : (w1.drew).heap[wr.heap.size]? = w1.heap[wr.heap.size]? := rfl
      refine seg_fork4c _ _ _ _ ?fin w2 rfl rfl rfl rfl rfl rfl ?_ ?_ ?_
      rotate_left
      · intro K hK
        go_wp2_with fail
        refine ⟨inC k1, ?_⟩
        go_big_quiet_step (fail)
        refine wpQuiet_nil ?_
        intro K' hK'
        go_wp2_with fail
        refine ⟨inC k2, ?_⟩
        go_big_quiet_step (fail)
        refine wpQuiet_nil ?_
        first | exact rfl | exact ⟨rfl, rfl⟩
      · intro K hK
        go_wp2_with fail
        refine ⟨inC k2, ?_⟩
        go_big_quiet_step (fail)
        refine wpQuiet_nil ?_
        intro K' hK'
        go_wp2_with fail
        refine ⟨inC k2, ?_⟩
        go_big_quiet_step (fail)
        refine wpQuiet_nil ?_
        first | exact rfl | exact ⟨rfl, rfl⟩
      intro _
      refine seg_loud _ rfl rfl ?_
      intro K hK
      obtain ⟨g1, m3, g3⟩ := HG.out
      have k3 : w3.heap[wr.heap.size]? = w1.heap[wr.heap.size]? := (g3.block _ (Nat.lt_of_lt_of_le HB1.out.lt g1.size) (by intro e; injection e with e; omega)).trans k2
      go_wp2_with fail
      refine ⟨_, fun _ h => h, inC k3, ?_⟩
      refine seg_nil ?_
      have hS : ∀ j, j < wr.heap.size → j ≠ w.heap.size + 1 → w3.heap[j]? = wr.heap[j]? := fun j hj hne => by
        have q1 := HBR.out.block j hj
        have hj1 : j < w1.heap.size := Nat.lt_of_lt_of_le hj HBR.out.size
        exact ((g3.block j (Nat.lt_of_lt_of_le hj1 g1.size) (by intro e; injection e with e; omega)).trans (g1.block j hj1 (by intro e; injection e with e; omega))).trans q1
      have hbw3 : Below w.heap.size w w3 := ((hbw.trans (HBR.out.mono hbw.size)).drew.grown g1 (hbw.trans (HBR.out.mono hbw.size)).size (fun k e => by injection e with e; omega)).grown g3 (Nat.le_trans (hbw.trans (HBR.out.mono hbw.size)).size g1.size) (fun k e => by injection e with e; omega)
      have HB3 : Hid (Blk w3 wr.heap.size 40 (fwC x)) := hid (k3.trans HB1.out)
      have HO3 : Hid (w3.ownsRow (w.heap.size + 2) 40 34 (.slice A' out.length c') out.length (out.flatMap fwC)) := hid (Go.Am.ownsRow_same HO.out fun a ha => by
        subst ha
        have l := Go.Am.ownsRow_lt HO.out
        exact hS _ l.2 (by omega))
      have HM3 : Hid (MpAt w3 (w.heap.size + 1) (dl.take (i + 1))) := hid (by rw [HT.out]; exact m3)
      have HK3 : Hid (w3.cell? ⟨w.heap.size, 0, none⟩ = some (.func (.func 28) #[] #[])) := hid ((show w3.cell? ⟨w.heap.size, 0, none⟩ = wr.cell? ⟨w.heap.size, 0, none⟩ by simp only [World.cell?, hS w.heap.size (by omega) (by omega)]).trans HK.out)
      have HLD : Hid ((Instr.loadAt 40 (.pointer (some ⟨wr.heap.size, 0, none⟩))).run Tryd.prog w3 = .ok (.agg (fwC x).toArray) w3) := hid (HB3.out.ld_all Tryd.underlying40 rfl HI0.out)
      have HLK : Hid ((Instr.lookup 93 (.map (some (w.heap.size + 1))) (.agg (fwC x).toArray) false).run Tryd.prog w3 = .ok (.int .i64 ((cq : Int) + 1)) w3) := hid (by
        have h := m3.look HRX.out
        rw [cntF_snoc, if_pos rfl, HCQ.out] at h
        exact h)
      have HX : Hid (cq = 0 ↔ x ∉ dl.take i) := hid (by rw [← HCQ.out]; exact cntF_zero x _)
      have hB3 : w.heap.size + 2 ≤ w3.heap.size := by
        have := HM3.out.lt; omega
      have HBW3 := hid hbw3
      clear hS hbw3 k1 k2 k3 r0 r1 r2 r3 f0 hne HG g1 m3 g3 HB1 HBR HO HM HK HCQ
      go_wp2_with (with_reducible refine wpList_ld rfl (.agg (fwC x).toArray) 40 (.tmp 8) (.pointer (some ⟨wr.heap.size, 0, none⟩)) rfl rfl HLD.out ?_; refine stop ?_)
      refine Stop.on ?_
      by_cases h0 : cq = 0
      · have rl : (Instr.lookup 93 (.map (some (w.heap.size + 1))) (.agg (fwC x).toArray) false).run Tryd.prog w3 = .ok (.int .i64 1) w3 := by rw [HLK.out, h0]; rfl
        have hx := HX.out.1 h0
        clear HLK
        go_wp2_with (with_reducible refine wpList_ld rfl (.agg (fwC x).toArray) 40 (.tmp 8) (.pointer (some ⟨wr.heap.size, 0, none⟩)) rfl rfl HLD.out ?_; refine stop ?_)
        refine Stop.on ?_
        have hbs := bs_one x w3
        have hz4 : Blk (w3.alloc (.cells (fwC x).toArray 40)) w3.heap.size 40 (fwC x) := Blk.new_at _ _ _ rfl
        have ho4 : (w3.alloc (.cells (fwC x).toArray 40)).ownsRow (w.heap.size + 2) 40 34 (.slice A' out.length c') out.length (out.flatMap fwC) := Go.Am.ownsRow_same HO3.out fun a ha => by
          subst ha
          exact heap_alloc_old w3 _ (Go.Am.ownsRow_lt HO3.out).2
        obtain ⟨A5, c5, w5, happ, ho5, hg5, _⟩ := Go.Am.run_append_g (P := Tryd.prog) (t := 50) (ty := 50) (sh := fwSh) foEl ho4 (src_one x hz4) (by omega) (by rw [World.size_alloc]; omega)
        have HHB := hid hbs
        clear hbs
        go_wp2_with (with_reducible refine wpList_bs rfl (.slice (some ⟨w3.heap.size, 0, none⟩) 1 1) 50 1 0 (.tmp 27) (.agg (fwC x).toArray) rfl rfl HHB.out ?_; refine stop ?_)
        refine Stop.on ?_
        try go_frame
        refine Go.Lib.wpList_append_run _ rfl (.tmp 26) (.tmp 28) 50 50 rfl (.slice A' out.length c') (.slice (some ⟨w3.heap.size, 0, none⟩) 1 1) rfl rfl _ _ happ ?_
        go_wp2
        go_roundw
        case rel =>
          have hS5 : ∀ j, j < w.heap.size + 2 → w5.heap[j]? = w3.heap[j]? := fun j hj => by
            have q1 : (w3.alloc (.cells (fwC x).toArray 40)).heap[j]? = w3.heap[j]? := heap_alloc_old w3 _ (by omega)
            refine (hg5.block j (by rw [World.size_alloc]; omega) ?_).trans q1
            intro e
            cases A' with
            | none => simp [Value.ownBlock] at e
            | some a =>
              simp only [Value.ownBlock] at e
              injection e with e
              have := (Go.Am.ownsRow_lt HO3.out).1
              omega
          have hbw5 : Below w.heap.size w w5 := (HBW3.out.alloc HBW3.out.size _).grown hg5 (by rw [World.size_alloc]; have := HBW3.out.size; omega) (fun k e => by
            cases A' with
            | none => simp [Value.ownBlock] at e
            | some a =>
              simp only [Value.ownBlock] at e
              injection e with e
              have := (Go.Am.ownsRow_lt HO3.out).1
              omega)
          have hfl : (out ++ [x]).flatMap fwC = out.flatMap fwC ++ fwC x := by rw [List.flatMap_append, List.flatMap_singleton]
          have hln : (out ++ [x]).length = out.length + 1 := by simp
          refine ⟨i + 1, A5, c5, out ++ [x], by rfl, by omega, by rw [hln], hbw5, hid (by rw [hfl, hln]; exact ho5), hid (HM3.out.blk (hS5 _ (by omega))), hid ((show w5.cell? ⟨w.heap.size, 0, none⟩ = w3.cell? ⟨w.heap.size, 0, none⟩ by simp only [World.cell?, hS5 w.heap.size (by omega)]).trans HK3.out), hid ⟨?_, fun y => ?_⟩, by rw [hln]; omega⟩
          · refine List.nodup_append.2 ⟨HN.out.1, by simp, ?_⟩
            intro a ha b hb e
            rw [List.mem_singleton] at hb
            subst hb; subst e
            exact hx ((HN.out.2 _).1 ha)
          · rw [HT.out, List.mem_append, List.mem_append, HN.out.2 y]
        case measure => simp only [intOf]; omega
      · have rl := HLK.out
        clear HLK
        have hq1 : ¬ ((cq : Int) + 1 = 1) := by omega
        go_wp2
        go_roundw
        case rel =>
          have hx : x ∈ dl.take i := by
            by_cases h : x ∈ dl.take i
            · exact h
            · exact absurd (HX.out.2 h) h0
          refine ⟨i + 1, A', c', out, by rfl, by omega, rfl, HBW3.out, HO3, HM3, HK3, hid ⟨HN.out.1, fun y => ?_⟩, by omega⟩
          rw [HT.out, List.mem_append, List.mem_singleton, HN.out.2 y]
          constructor
          · exact .inl
          · rintro (h | rfl)
            · exact h
            · exact hx
        case measure => simp only [intOf]; omega
    · have hie : i = dl.length := by omega
      have HTK : Hid (dl.take i = dl) := hid (by rw [hie, List.take_length])
      have hbs : w.heap.size + 2 ≤ wr.heap.size := by have := HM.out.lt; omega
      have hlm : (out.mergeSort fun x y => !fwLt y.1 x.1).length = out.length := List.length_mergeSort ..
      have hsrt : Calls Tryd.prog 66 #[.slice A' out.length c', .func (.func 67) #[] #[.pointer (some ⟨w.heap.size, 0, none⟩)]] wr fun e w' => e = .returned (.tuple #[]) ∧
          w'.ownsRow w.heap.size 40 34 (.slice A' out.length c') out.length ((out.mergeSort fun x y => !fwLt y.1 x.1).flatMap fwC) ∧ Below w.heap.size wr w' := by
        rcases Go.Am.own_form HO.out with ⟨g, rfl⟩ | ⟨rfl, h0, rfl⟩
        · have hlt := Go.Am.ownsRow_lt HO.out
          refine (srt_calls (w.heap.size + 2) g c' w.heap.size out wr HK.out (by have := hlt.1; dsimp only at this; omega) HO.out (by omega) hbs).mono ?_
          rintro e w' ⟨q1, q2, q3⟩
          exact ⟨q1, Go.Am.ownsRow_base q2 (by omega), q3.mono (by omega)⟩
        · have e0 : out = [] := List.eq_nil_of_length_eq_zero h0
          subst e0
          refine Calls.mono (AnyF.slices_SortFunc_none Tryd.sortFl none 0 (.func (.func 67) #[] #[.pointer (some ⟨w.heap.size, 0, none⟩)]) wr) ?_
          rintro e w' ⟨q1, rfl⟩
          exact ⟨q1, by rw [List.mergeSort_nil]; exact World.ownsRow_nil _ _ _ _, Below.refl _ _⟩
      have HBW := hid hbw
      have HPW := hid (srt_pw out HN.out.1)
      have HME : Hid (∀ x, x ∈ (out.mergeSort fun x y => !fwLt y.1 x.1) ↔ x ∈ dl) := hid fun x => by
        rw [(List.mergeSort_perm out _).mem_iff, HN.out.2 x, HTK.out]
      generalize (out.mergeSort fun x y => !fwLt y.1 x.1) = M at hlm hsrt HPW HME
      clear HO HM HK HN HTK hbw
      go_wp2_with fail
      refine hsrt.mono ?_
      rintro e w5 ⟨rfl, ho5, hb5⟩
      go_wp2
      go_ret
      exact ⟨A', c', M, by rw [hlm]; rfl, by rw [hlm]; exact ho5, HBW.out.trans hb5, HPW.out, HME.out, by omega⟩
end Go.Proofs.YtpoeinajedbfoaaDoor
