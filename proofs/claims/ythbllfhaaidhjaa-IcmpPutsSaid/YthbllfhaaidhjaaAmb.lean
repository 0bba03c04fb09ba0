/- The abstract machine, second part: what its values stand for in a world. -/
import Derived.Test.YthbllfhaaidhjaaAma
import Derived.Test.YthbllfhaaidhjaaRow
namespace Go.Am
open Go Go.RowKit Go.Bas

/-- what stands behind a number of the machine's memory -/
inductive Cn where
  | var (g : Nat) (sh : Sh)
  | row (A : Option Addr) (n c : Nat) (T : TypeId) (sh : Sh)

/-- where a part lies -/
inductive At : Sh → List Step → Nat → Sh → Prop
  | here {s} : At s [] 0 s
  | fld {l j p s o r} (hj : nthL l j = some s) (h : At s p o r) : At (.agg l) (.fld j :: p) (fldOff l j + o) r
  | byte {n i} (hi : i < n) : At (.barr n) [.idx i] i (.int .u8)
  | elem {n i e p o r} (hi : i < n) (h : At e p o r) : At (.arr n e) (.idx i :: p) (i * e.size + o) r

/-- the call's own variable, or element, at a path -/
def RefTo (ι : Nat → Option Cn) (id : Nat) (p : List Step) (off : Nat) (sh : Sh) (g : Nat) : Prop :=
  (∃ s0, ι id = some (.var g s0) ∧ At s0 p off sh) ∨
  (∃ n c T e, ι id = some (.row (some ⟨g, 0, none⟩) n c T e) ∧ At (.arr n e) p off sh ∧ p ≠ [])

mutual
inductive CRep (ι : Nat → Option Cn) (O : Nat → Prop) (w : World) : V → List Value → Prop
  | int {k n} (h : k = .u8 → 0 ≤ n ∧ n < 256) : CRep ι O w (.int k n) [.int k n]
  | bool {b} : CRep ι O w (.bool b) [.bool b]
  | str {l} : CRep ι O w (.str l) [.string ⟨l.toArray⟩]
  | nils : CRep ι O w .nils [.slice none 0 0]
  | bytes {A n c l} (h : Bs w A n c l) (ho : l ≠ [] → ∀ b off, A = some ⟨b, off, none⟩ → ¬ O b) : CRep ι O w (.bytes l) [.slice A n c]
  | rows {e l A n c ds} (hn : n = l.length) (hc : n ≤ c) (hm : c ≤ 9223372036854775807) (he : ∀ x ∈ l, isR e x = true) (hr : CReps ι O w l ds)
      (hd : l ≠ [] → ∃ b off, A = some ⟨b, off, none⟩ ∧ ¬ O b ∧ b < w.heap.size ∧ ∀ j v, ds[j]? = some v → w.cell? ⟨b, off + j, none⟩ = some v) : CRep ι O w (.rows e l) [.slice A n c]
  | barr {n l} (h : l.length = n) : CRep ι O w (.barr n l) (l.map bv)
  | arr {e n l ds} (h : l.length = n) (he : ∀ x ∈ l, isR e x = true) (hr : CReps ι O w l ds) : CRep ι O w (.arr e n l) ds
  | agg {l ds} (hr : CReps ι O w l ds) : CRep ι O w (.agg l) ds
  | ref {id p off sh g} (h : RefTo ι id p off sh g) : CRep ι O w (.ref id p off sh) [.pointer (some ⟨g, off, none⟩)]
  | vref {sh v b off ds} (hs : isR sh v = true) (hr : CRep ι O w v ds) (ho : ¬ O b) (hb : b < w.heap.size) (hd : ∀ j u, ds[j]? = some u → w.cell? ⟨b, off + j, none⟩ = some u) :
      CRep ι O w (.vref sh v) [.pointer (some ⟨b, off, none⟩)]
  | own {id n sh A c T} (h : ι id = some (.row A n c T sh)) (hA : 0 < n → ∃ g, A = some ⟨g, 0, none⟩) : CRep ι O w (.own id n sh) [.slice A n c]
  | fn {f a b as bs} (ha : VReps ι O w a as) (hb : VReps ι O w b bs) : CRep ι O w (.fn f a b) [.func (.func f) as.toArray bs.toArray]
  | nilp : CRep ι O w (.nil .ptr) [.pointer none]
  | nilf : CRep ι O w (.nil .func) [.nilFunc]
  | nili : CRep ι O w (.nil .iface) [.nilIface]
  | nilm : CRep ι O w (.nil .map) [.map none]
inductive CReps (ι : Nat → Option Cn) (O : Nat → Prop) (w : World) : List V → List Value → Prop
  | nil : CReps ι O w [] []
  | cons {v l cs ds} (h : CRep ι O w v cs) (hr : CReps ι O w l ds) : CReps ι O w (v :: l) (cs ++ ds)
/-- a value as an operand has it -/
inductive VRep (ι : Nat → Option Cn) (O : Nat → Prop) (w : World) : V → Value → Prop
  | one {v c} (h : CRep ι O w v [c]) (ha : v.isAgg = false) : VRep ι O w v c
  | agg {v cs} (h : CRep ι O w v cs) (ha : v.isAgg = true) : VRep ι O w v (.agg cs.toArray)
  | tup {l cs} (h : VReps ι O w l cs) : VRep ι O w (.tup l) (.tuple cs.toArray)
  | void : VRep ι O w .void Go.undef
  | undef {c} : VRep ι O w .undef c
inductive VReps (ι : Nat → Option Cn) (O : Nat → Prop) (w : World) : List V → List Value → Prop
  | nil : VReps ι O w [] []
  | cons {v l c cs} (h : VRep ι O w v c) (hr : VReps ι O w l cs) : VReps ι O w (v :: l) (c :: cs)
end

/-- from one world to a later one: what is nobody's alone stays -/
structure Ext (ι ι' : Nat → Option Cn) (O O' : Nat → Prop) (w w' : World) : Prop where
  size : w.heap.size ≤ w'.heap.size
  io : ∀ id c, ι id = some c → ι' id = some c
  same : ∀ b, b < w.heap.size → ¬ O b → w'.heap[b]? = w.heap[b]?
  own : ∀ b, O' b → O b ∨ w.heap.size ≤ b

section
variable {ι ι' ι'' : Nat → Option Cn} {O O' O'' : Nat → Prop} {w w' w'' : World}
theorem Ext.refl : Ext ι ι O O w w := ⟨Nat.le_refl _, fun _ _ h => h, fun _ _ _ => rfl, fun _ h => .inl h⟩
theorem Ext.trans (h : Ext ι ι' O O' w w') (k : Ext ι' ι'' O' O'' w' w'') : Ext ι ι'' O O'' w w'' :=
  ⟨Nat.le_trans h.size k.size, fun id c e => k.io id c (h.io id c e),
   fun b hb ho => (k.same b (Nat.lt_of_lt_of_le hb h.size) (fun h' => (h.own b h').elim ho (by omega))).trans (h.same b hb ho),
   fun b hb => (k.own b hb).elim (h.own b) (fun h' => .inr (Nat.le_trans h.size h'))⟩
theorem Ext.cell (h : Ext ι ι' O O' w w') {b off : Nat} (hb : b < w.heap.size) (ho : ¬ O b) : w'.cell? ⟨b, off, none⟩ = w.cell? ⟨b, off, none⟩ :=
  World.cell?_of_block (w := w) (h.same b hb ho)
theorem Ext.not (h : Ext ι ι' O O' w w') {b : Nat} (hb : b < w.heap.size) (ho : ¬ O b) : ¬ O' b := fun h' => (h.own b h').elim ho (by omega)
theorem RefTo.ext (h : Ext ι ι' O O' w w') {id p off sh g} (hr : RefTo ι id p off sh g) : RefTo ι' id p off sh g := by
  rcases hr with ⟨s0, h1, h2⟩ | ⟨n, c, T, e, h1, h2⟩
  · exact .inl ⟨s0, h.io _ _ h1, h2⟩
  · exact .inr ⟨n, c, T, e, h.io _ _ h1, h2⟩
theorem Bs.ext (h : Ext ι ι' O O' w w') {A n c l} (hb : Bs w A n c l) (ho : l ≠ [] → ∀ b off, A = some ⟨b, off, none⟩ → ¬ O b) : Bs w' A n c l :=
  ⟨hb.len, hb.cap, hb.most, fun hl => by
    obtain ⟨b, off, rfl, hlt, hc⟩ := hb.rd hl
    exact ⟨b, off, rfl, Nat.lt_of_lt_of_le hlt h.size, fun j hj => (h.cell hlt (ho hl b off rfl)).trans (hc j hj)⟩⟩
theorem CRep.ext_all (h : Ext ι ι' O O' w w') :
    (∀ {v cs}, CRep ι O w v cs → CRep ι' O' w' v cs) ∧ (∀ {v cs}, CReps ι O w v cs → CReps ι' O' w' v cs) ∧ (∀ {v cs}, VRep ι O w v cs → VRep ι' O' w' v cs) ∧ (∀ {v cs}, VReps ι O w v cs → VReps ι' O' w' v cs) := by
  have hbytes : ∀ {A n c l}, Bs w A n c l → (l ≠ [] → ∀ b off, A = some ⟨b, off, none⟩ → ¬ O b) → CRep ι' O' w' (.bytes l) [.slice A n c] := by
    intro A n c l hb ho
    refine .bytes (Bs.ext h hb ho) fun hl b off e => ?_
    obtain ⟨b', off', e', hlt, _⟩ := hb.rd hl
    rw [e] at e'
    injection e' with e'; injection e' with e1 e2
    subst e1
    exact h.not hlt (ho hl b off e)
  have hrows : ∀ {e : Sh} {l : List V} {A : Option Addr} {n c : Nat} {ds : List Value}, n = l.length → n ≤ c → c ≤ 9223372036854775807 → (∀ x ∈ l, isR e x = true) → CReps ι' O' w' l ds →
      (l ≠ [] → ∃ b off, A = some ⟨b, off, none⟩ ∧ ¬ O b ∧ b < w.heap.size ∧ ∀ j v, ds[j]? = some v → w.cell? ⟨b, off + j, none⟩ = some v) → CRep ι' O' w' (.rows e l) [.slice A n c] := by
    intro e l A n c ds hn hc hm he ih hd
    exact .rows hn hc hm he ih fun hl => by
      obtain ⟨b, off, e1, ho, hb, hcell⟩ := hd hl
      exact ⟨b, off, e1, h.not hb ho, Nat.lt_of_lt_of_le hb h.size, fun j v hj => (h.cell hb ho).trans (hcell j v hj)⟩
  have hvref : ∀ {sh : Sh} {v : V} {b off : Nat} {ds : List Value}, isR sh v = true → CRep ι' O' w' v ds → ¬ O b → b < w.heap.size → (∀ j u, ds[j]? = some u → w.cell? ⟨b, off + j, none⟩ = some u) → CRep ι' O' w' (.vref sh v) [.pointer (some ⟨b, off, none⟩)] := by
    intro sh v b off ds hs ih ho hb hd
    exact .vref hs ih (h.not hb ho) (Nat.lt_of_lt_of_le hb h.size) fun j u hj => (h.cell hb ho).trans (hd j u hj)
  refine ⟨fun hv => ?_, fun hv => ?_, fun hv => ?_, fun hv => ?_⟩
  · exact CRep.rec (motive_1 := fun v cs _ => CRep ι' O' w' v cs) (motive_2 := fun v cs _ => CReps ι' O' w' v cs) (motive_3 := fun v cs _ => VRep ι' O' w' v cs) (motive_4 := fun v cs _ => VReps ι' O' w' v cs)
      (fun h => .int h) .bool .str .nils (fun hb ho => hbytes hb ho) (fun hn hc hm he _ hd ih => hrows hn hc hm he ih hd) (fun h => .barr h) (fun a b _ c => .arr a b c) (fun _ c => .agg c) (fun hr => .ref (hr.ext h)) (fun hs _ ho hb hd ih => hvref hs ih ho hb hd) (fun hr hA => .own (h.io _ _ hr) hA) (fun _ _ a b => .fn a b) .nilp .nilf .nili .nilm
      .nil (fun _ _ a b => .cons a b) (fun _ a b => .one b a) (fun _ a b => .agg b a) (fun _ a => .tup a) .void .undef .nil (fun _ _ a b => .cons a b) hv
  · exact CReps.rec (motive_1 := fun v cs _ => CRep ι' O' w' v cs) (motive_2 := fun v cs _ => CReps ι' O' w' v cs) (motive_3 := fun v cs _ => VRep ι' O' w' v cs) (motive_4 := fun v cs _ => VReps ι' O' w' v cs)
      (fun h => .int h) .bool .str .nils (fun hb ho => hbytes hb ho) (fun hn hc hm he _ hd ih => hrows hn hc hm he ih hd) (fun h => .barr h) (fun a b _ c => .arr a b c) (fun _ c => .agg c) (fun hr => .ref (hr.ext h)) (fun hs _ ho hb hd ih => hvref hs ih ho hb hd) (fun hr hA => .own (h.io _ _ hr) hA) (fun _ _ a b => .fn a b) .nilp .nilf .nili .nilm
      .nil (fun _ _ a b => .cons a b) (fun _ a b => .one b a) (fun _ a b => .agg b a) (fun _ a => .tup a) .void .undef .nil (fun _ _ a b => .cons a b) hv
  · exact VRep.rec (motive_1 := fun v cs _ => CRep ι' O' w' v cs) (motive_2 := fun v cs _ => CReps ι' O' w' v cs) (motive_3 := fun v cs _ => VRep ι' O' w' v cs) (motive_4 := fun v cs _ => VReps ι' O' w' v cs)
      (fun h => .int h) .bool .str .nils (fun hb ho => hbytes hb ho) (fun hn hc hm he _ hd ih => hrows hn hc hm he ih hd) (fun h => .barr h) (fun a b _ c => .arr a b c) (fun _ c => .agg c) (fun hr => .ref (hr.ext h)) (fun hs _ ho hb hd ih => hvref hs ih ho hb hd) (fun hr hA => .own (h.io _ _ hr) hA) (fun _ _ a b => .fn a b) .nilp .nilf .nili .nilm
      .nil (fun _ _ a b => .cons a b) (fun _ a b => .one b a) (fun _ a b => .agg b a) (fun _ a => .tup a) .void .undef .nil (fun _ _ a b => .cons a b) hv
  · exact VReps.rec (motive_1 := fun v cs _ => CRep ι' O' w' v cs) (motive_2 := fun v cs _ => CReps ι' O' w' v cs) (motive_3 := fun v cs _ => VRep ι' O' w' v cs) (motive_4 := fun v cs _ => VReps ι' O' w' v cs)
      (fun h => .int h) .bool .str .nils (fun hb ho => hbytes hb ho) (fun hn hc hm he _ hd ih => hrows hn hc hm he ih hd) (fun h => .barr h) (fun a b _ c => .arr a b c) (fun _ c => .agg c) (fun hr => .ref (hr.ext h)) (fun hs _ ho hb hd ih => hvref hs ih ho hb hd) (fun hr hA => .own (h.io _ _ hr) hA) (fun _ _ a b => .fn a b) .nilp .nilf .nili .nilm
      .nil (fun _ _ a b => .cons a b) (fun _ a b => .one b a) (fun _ a b => .agg b a) (fun _ a => .tup a) .void .undef .nil (fun _ _ a b => .cons a b) hv
theorem CRep.ext (h : Ext ι ι' O O' w w') {v cs} (hv : CRep ι O w v cs) : CRep ι' O' w' v cs := (CRep.ext_all h).1 hv
theorem CReps.ext (h : Ext ι ι' O O' w w') {v cs} (hv : CReps ι O w v cs) : CReps ι' O' w' v cs := (CRep.ext_all h).2.1 hv
theorem VRep.ext (h : Ext ι ι' O O' w w') {v cs} (hv : VRep ι O w v cs) : VRep ι' O' w' v cs := (CRep.ext_all h).2.2.1 hv
theorem VReps.ext (h : Ext ι ι' O O' w w') {v cs} (hv : VReps ι O w v cs) : VReps ι' O' w' v cs := (CRep.ext_all h).2.2.2 hv

/-! ### lists of parts -/
theorem CReps.nth {l : List V} {ds : List Value} (h : CReps ι O w l ds) {j : Nat} {v : V} (hj : nthL l j = some v) : ∃ pre cs post, ds = pre ++ (cs ++ post) ∧ CRep ι O w v cs ∧
    (∀ z zs, CRep ι O w z zs → CReps ι O w (setL l j z) (pre ++ (zs ++ post))) := by
  induction l generalizing ds j with
  | nil => simp [nthL] at hj
  | cons x l ih =>
    cases h with
    | cons a b =>
      rename_i cs ds
      cases j with
      | zero =>
        simp [nthL] at hj; subst hj
        exact ⟨[], cs, ds, rfl, a, fun z zs hz => by show CReps ι O w (z :: l) (zs ++ ds); exact .cons hz b⟩
      | succ j =>
        obtain ⟨pre, ps, post, e, h1, h2⟩ := ih b (j := j) hj
        subst e
        refine ⟨cs ++ pre, ps, post, by simp, h1, fun z zs hz => ?_⟩
        rw [List.append_assoc]
        exact .cons a (h2 z zs hz)
theorem CReps.append {l m : List V} {ds es : List Value} (h : CReps ι O w l ds) (k : CReps ι O w m es) : CReps ι O w (l ++ m) (ds ++ es) := by
  induction l generalizing ds with
  | nil => cases h; exact k
  | cons x l ih => cases h with | cons a b => rw [List.append_assoc]; exact .cons a (ih b)
theorem VReps.append {l m : List V} {ds es : List Value} (h : VReps ι O w l ds) (k : VReps ι O w m es) : VReps ι O w (l ++ m) (ds ++ es) := by
  induction l generalizing ds with
  | nil => cases h; exact k
  | cons x l ih => cases h with | cons a b => exact .cons a (ih b)
theorem VReps.length {l : List V} {ds : List Value} (h : VReps ι O w l ds) : ds.length = l.length := by
  induction l generalizing ds with
  | nil => cases h; rfl
  | cons x l ih => cases h with | cons a b => simp [ih b]
theorem VReps.nth {l : List V} {ds : List Value} (h : VReps ι O w l ds) {j : Nat} {v : V} (hj : nthL l j = some v) : ∃ c, ds[j]? = some c ∧ VRep ι O w v c := by
  induction l generalizing ds j with
  | nil => simp [nthL] at hj
  | cons x l ih =>
    cases h with
    | cons a b =>
      cases j with
      | zero => simp [nthL] at hj; subst hj; exact ⟨_, rfl, a⟩
      | succ j => obtain ⟨c, h1, h2⟩ := ih b (j := j) hj; exact ⟨c, by simpa using h1, h2⟩
theorem VReps.take {l : List V} {ds : List Value} (h : VReps ι O w l ds) (k : Nat) : VReps ι O w (l.take k) (ds.take k) := by
  induction l generalizing ds k with
  | nil => cases h; simp; exact .nil
  | cons x l ih => cases h with | cons a b => cases k with | zero => exact .nil | succ k => exact .cons a (ih b k)
theorem VReps.drop {l : List V} {ds : List Value} (h : VReps ι O w l ds) (k : Nat) : VReps ι O w (l.drop k) (ds.drop k) := by
  induction l generalizing ds k with
  | nil => cases h; simp; exact .nil
  | cons x l ih => cases h with | cons a b => cases k with | zero => exact .cons a b | succ k => exact ih b k
end

/-! ### shapes -/
mutual
theorem Sh.beq_eq : ∀ {a b : Sh}, Sh.beq a b = true → a = b
  | .int k, b, h => by cases b <;> simp [Sh.beq] at h; subst h; rfl
  | .bool, b, h => by cases b <;> simp [Sh.beq] at h; rfl
  | .str, b, h => by cases b <;> simp [Sh.beq] at h; rfl
  | .bytes, b, h => by cases b <;> simp [Sh.beq] at h; rfl
  | .other k, b, h => by cases b <;> simp [Sh.beq] at h; subst h; rfl
  | .rows e, b, h => by cases b <;> simp [Sh.beq] at h; rw [Sh.beq_eq h]
  | .barr n, b, h => by cases b <;> simp [Sh.beq] at h; rw [h]
  | .arr n e, b, h => by cases b <;> simp [Sh.beq] at h; rw [h.1, Sh.beq_eq h.2]
  | .agg l, b, h => by cases b <;> simp [Sh.beq] at h; rw [Sh.beqs_eq h]
theorem Sh.beqs_eq : ∀ {a b : List Sh}, Sh.beqs a b = true → a = b
  | [], b, h => by cases b <;> simp [Sh.beqs] at h; rfl
  | x :: l, b, h => by
    cases b with
    | nil => simp [Sh.beqs] at h
    | cons y m => simp [Sh.beqs] at h; rw [Sh.beq_eq h.1, Sh.beqs_eq h.2]
end
mutual
theorem isR_eta : ∀ {s : Sh} {v : V}, isR s v = true → eta s v = v
  | .int k, v, h => by cases v <;> simp [isR] at h; subst h; rfl
  | .bool, v, h => by cases v <;> simp [isR] at h; rfl
  | .str, v, h => by cases v <;> simp [isR] at h; rfl
  | .bytes, v, h => by cases v <;> simp [isR] at h; rfl
  | .other k, v, h => by cases v <;> simp [isR] at h
  | .rows e, v, h => by cases v <;> simp [isR] at h; rw [Sh.beq_eq h]; rfl
  | .barr n, v, h => by cases v <;> simp [isR] at h; rw [h]; rfl
  | .arr n e, v, h => by cases v <;> simp [isR] at h; rw [h.1, Sh.beq_eq h.2]; rfl
  | .agg l, v, h => by cases v <;> simp [isR] at h; simp only [eta, toG, isRs_etas h]
theorem isRs_etas : ∀ {s : List Sh} {v : List V}, isRs s v = true → etas s v = v
  | [], v, h => by cases v <;> simp [isRs] at h; rfl
  | a :: s, v, h => by
    cases v with
    | nil => simp [isRs] at h
    | cons x v => simp [isRs] at h; simp only [etas, List.headD_cons, List.tail_cons, isR_eta h.1, isRs_etas h.2]
end
mutual
theorem isR_isSh : ∀ {s : Sh} {v : V}, isR s v = true → isSh s v = true
  | .int k, v, h => by cases v <;> simp [isR] at h; simpa [isSh] using h
  | .bool, v, h => by cases v <;> simp [isR] at h; rfl
  | .str, v, h => by cases v <;> simp [isR] at h; rfl
  | .bytes, v, h => by cases v <;> simp [isR] at h; rfl
  | .other k, v, h => by cases v <;> simp [isR] at h
  | .rows e, v, h => by cases v <;> simp [isR] at h; simpa [isSh] using h
  | .barr n, v, h => by cases v <;> simp [isR] at h; simpa [isSh] using h
  | .arr n e, v, h => by cases v <;> simp [isR] at h; simpa [isSh] using h
  | .agg l, v, h => by cases v <;> simp [isR] at h; simpa [isSh] using isRs_isShs h
theorem isRs_isShs : ∀ {s : List Sh} {v : List V}, isRs s v = true → isShs s v = true
  | [], v, h => by cases v <;> simp [isRs] at h; rfl
  | a :: s, v, h => by
    cases v with
    | nil => simp [isRs] at h
    | cons x v => simp [isRs] at h; simp [isShs, isR_isSh h.1, isRs_isShs h.2]
end
section
variable {ι : Nat → Option Cn} {O : Nat → Prop} {w : World}
theorem CReps.len_of {e : Sh} (hl : ∀ {v cs}, isSh e v = true → CRep ι O w v cs → cs.length = e.size) {l : List V} {ds : List Value} (h : CReps ι O w l ds) (he : ∀ x ∈ l, isR e x = true) : ds.length = l.length * e.size := by
  induction l generalizing ds with
  | nil => cases h; simp
  | cons x l ih =>
    cases h with
    | cons a b =>
      rw [List.length_append, ih b (fun y hy => he y (by simp [hy])), hl (isR_isSh (he x (by simp))) a, List.length_cons, Nat.add_mul, Nat.one_mul, Nat.add_comm]
mutual
theorem CRep.len : ∀ {s : Sh} {v : V} {cs : List Value}, isSh s v = true → CRep ι O w v cs → cs.length = s.size
  | .int k, v, cs, h, hr => by cases v <;> simp [isSh] at h; cases hr; rfl
  | .bool, v, cs, h, hr => by cases v <;> simp [isSh] at h; cases hr; rfl
  | .str, v, cs, h, hr => by cases v <;> simp [isSh] at h; cases hr; rfl
  | .bytes, v, cs, h, hr => by cases v <;> simp [isSh] at h <;> cases hr <;> rfl
  | .other k, v, cs, h, hr => by cases k <;> cases v <;> simp [isSh] at h <;> cases hr <;> rfl
  | .rows e, v, cs, h, hr => by cases v <;> simp [isSh] at h <;> cases hr <;> rfl
  | .barr n, v, cs, h, hr => by cases v <;> simp [isSh] at h; cases hr with | barr hn => simp [Sh.size, hn, h]
  | .arr n e, v, cs, h, hr => by
    cases v <;> simp [isSh] at h
    cases hr with
    | arr hn he hr => rw [← Sh.beq_eq h.2] at he; rw [CReps.len_of (fun a b => CRep.len a b) hr he, hn, ← h.1]; rfl
  | .agg l, v, cs, h, hr => by cases v <;> simp [isSh] at h; cases hr with | agg hr => exact CReps.len h hr
theorem CReps.len : ∀ {s : List Sh} {v : List V} {cs : List Value}, isShs s v = true → CReps ι O w v cs → cs.length = Sh.sizes s
  | [], v, cs, h, hr => by cases v <;> simp [isShs] at h; cases hr; rfl
  | a :: s, v, cs, h, hr => by
    cases v with
    | nil => simp [isShs] at h
    | cons x v => simp [isShs] at h; cases hr with | cons p q => rw [List.length_append, CRep.len h.1 p, CReps.len h.2 q]; rfl
end
theorem isShs_nth : ∀ {ss : List Sh} {l : List V} {j : Nat} {s : Sh}, isShs ss l = true → nthL ss j = some s → ∃ v, nthL l j = some v ∧ isSh s v = true
  | [], l, j, s, h, hj => by simp [nthL] at hj
  | a :: ss, l, j, s, h, hj => by
    cases l with
    | nil => simp [isShs] at h
    | cons x l =>
      simp [isShs] at h
      cases j with
      | zero => simp [nthL] at hj; subst hj; exact ⟨x, rfl, h.1⟩
      | succ j => exact isShs_nth (l := l) (j := j) h.2 hj
theorem isRs_nth : ∀ {ss : List Sh} {l : List V} {j : Nat} {s : Sh}, isRs ss l = true → nthL ss j = some s → ∃ v, nthL l j = some v ∧ isR s v = true
  | [], l, j, s, h, hj => by simp [nthL] at hj
  | a :: ss, l, j, s, h, hj => by
    cases l with
    | nil => simp [isRs] at h
    | cons x l =>
      simp [isRs] at h
      cases j with
      | zero => simp [nthL] at hj; subst hj; exact ⟨x, rfl, h.1⟩
      | succ j => exact isRs_nth (l := l) (j := j) h.2 hj
theorem isShs_set : ∀ {ss : List Sh} {l : List V} {j : Nat} {s : Sh} {z : V}, isShs ss l = true → nthL ss j = some s → isSh s z = true → isShs ss (setL l j z) = true
  | [], l, j, s, z, h, hj, hz => by simp [nthL] at hj
  | a :: ss, l, j, s, z, h, hj, hz => by
    cases l with
    | nil => simp [isShs] at h
    | cons x l =>
      simp [isShs] at h
      cases j with
      | zero => simp [nthL] at hj; subst hj; simp [setL, isShs, hz, h.2]
      | succ j => simp [setL, isShs, h.1, isShs_set h.2 hj hz]
/-- a part of a struct: where it lies, and what changes when it is written -/
theorem CReps.part : ∀ {ss : List Sh} {l : List V} {ds : List Value} {j : Nat} {s : Sh} {v : V}, isShs ss l = true → CReps ι O w l ds → nthL ss j = some s → nthL l j = some v →
    ∃ pre cs post, ds = pre ++ (cs ++ post) ∧ pre.length = fldOff ss j ∧ cs.length = s.size ∧ CRep ι O w v cs ∧ (∀ z zs, CRep ι O w z zs → CReps ι O w (setL l j z) (pre ++ (zs ++ post)))
  | [], l, ds, j, s, v, h, hr, hj, hv => by simp [nthL] at hj
  | a :: ss, l, ds, j, s, v, h, hr, hj, hv => by
    cases l with
    | nil => simp [isShs] at h
    | cons x l =>
      simp [isShs] at h
      cases hr with
      | cons p q =>
        rename_i cs ds
        cases j with
        | zero =>
          simp [nthL] at hj hv; subst hj; subst hv
          exact ⟨[], cs, ds, rfl, rfl, CRep.len h.1 p, p, fun z zs hz => by show CReps ι O w (z :: l) (zs ++ ds); exact .cons hz q⟩
        | succ j =>
          obtain ⟨pre, ps, post, e, h1, h2, h3, h4⟩ := CReps.part h.2 q (j := j) hj hv
          subst e
          refine ⟨cs ++ pre, ps, post, by simp, by rw [List.length_append, CRep.len h.1 p, h1]; rfl, h2, h3, fun z zs hz => ?_⟩
          rw [List.append_assoc]
          exact .cons p (h4 z zs hz)
/-- an element of an array -/
theorem CReps.elem {e : Sh} {l : List V} {ds : List Value} {i : Nat} (h : CReps ι O w l ds) (he : ∀ x ∈ l, isR e x = true) (hi : i < l.length) :
    ∃ pre cs post, ds = pre ++ (cs ++ post) ∧ pre.length = i * e.size ∧ cs.length = e.size ∧ CRep ι O w l[i] cs ∧ (∀ z zs, CRep ι O w z zs → CReps ι O w (l.set i z) (pre ++ (zs ++ post))) := by
  induction l generalizing ds i with
  | nil => simp at hi
  | cons x l ih =>
    cases h with
    | cons p q =>
      rename_i cs ds
      have hl := CRep.len (isR_isSh (he x (by simp))) p
      cases i with
      | zero => exact ⟨[], cs, ds, rfl, by simp, hl, p, fun z zs hz => by show CReps ι O w (z :: l) (zs ++ ds); exact .cons hz q⟩
      | succ i =>
        obtain ⟨pre, ps, post, e1, h1, h2, h3, h4⟩ := ih q (fun y hy => he y (by simp [hy])) (i := i) (by simpa using hi)
        subst e1
        refine ⟨cs ++ pre, ps, post, by simp, by rw [List.length_append, hl, h1, Nat.add_mul, Nat.one_mul, Nat.add_comm], h2, h3, fun z zs hz => ?_⟩
        rw [List.append_assoc]
        exact .cons p (h4 z zs hz)
end
end Go.Am
