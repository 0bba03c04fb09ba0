/- The abstract machine, thirteenth part: built values, made rows, copies, conversions. -/
import Derived.Test.YthbllfhaaidhjaaAml
namespace Go.Am
open Go Go.RowKit Go.Bas
section
variable {ι : Nat → Option Cn} {O : Nat → Prop} {w0 : Zone} {w : World} {hp : Nat → Option Blk} {P : Program}

/-! ### conversions, least and greatest -/
theorem op_conv (h : HSim ι O w0 hp w) {src dst : TypeId} {x v : V} {c : Value} (hx : VRep ι (Ex1 ι hp O) w x c) (hc : convV P src dst x hp = some v) :
    ∃ d, (convert src dst c).run P w = .ok d w ∧ VRep ι (Ex1 ι hp O) w v d := by
  unfold convV at hc
  split at hc
  · rename_i s k k' n hs hd
    injection hc with hc; subst hc
    obtain ⟨rfl, _⟩ := hx.int_inv
    refine ⟨.int k (k.wrap n), ?_, VRep.i (by rintro rfl; exact wrap_u8 _)⟩
    simp [convert, run_underlying hs, run_underlying hd, Conv.intToInt]
  · rename_i l hs hd
    injection hc with hc; subst hc
    cases hx.str_inv
    exact ⟨_, by simp [convert, run_underlying hs, run_underlying hd], VRep.s⟩
  · rename_i e hs hd
    split at hc
    · rename_i he
      split at hc
      · rename_i l hsl
        obtain ⟨hisl, hc⟩ := ofBif hc
        injection hc with hc; subst hc
        have key : ∃ A n k, c = .slice A n k ∧ Bs w A n k l := by
          unfold sliceC at hsl
          split at hsl
          · injection hsl with hsl; injection hsl with hsl; subst hsl
            exact ⟨_, _, _, hx.nils_inv, Bs.nil _ _ _ (by omega)⟩
          · injection hsl with hsl; injection hsl with hsl; subst hsl
            obtain ⟨A, n, k, rfl, hb, _⟩ := hx.bytes_inv
            exact ⟨_, _, _, rfl, hb⟩
          · cases hsl
          · cases hisl
          · obtain ⟨k, hk, hck⟩ := Option.map_eq_some_iff.1 hsl
            obtain ⟨A, c', T, rfl, hi, hA⟩ := hx.own_inv
            rename_i n sh
            rcases own_cont h hi hk with ⟨ds, h1, h2, h3⟩ | ⟨h1, h2, h3, _⟩
            · rw [hck] at h1
              cases h1 with
              | bytes =>
                have hown : Own w 0 T A l.length c' l := ⟨rfl, h2⟩
                exact ⟨_, _, _, rfl, hown.bs⟩
            · rw [hck] at h1
              cases h1 with
              | bytes hb _ => exact ⟨_, _, _, rfl, hb⟩
          · cases hsl
        obtain ⟨A, n, k, rfl, hb⟩ := key
        exact ⟨_, run_string src e dst hs he hd hb, VRep.s⟩
      · cases hc
    · cases hc
  · cases hc
theorem op_min {X : Nat → Prop} {ts : Array TypeId} {ty : TypeId} {k : IntKind} {x y : Int} {c d : Value} (hx : VRep ι X w (.int k x) c) (hy : VRep ι X w (.int k y) d) :
    (Builtin.min_ ts ty #[c, d]).run P w = .ok (.int k (if y < x then y else x)) w ∧ VRep ι X w (.int k (if y < x then y else x)) (.int k (if y < x then y else x)) := by
  obtain ⟨rfl, h1⟩ := hx.int_inv; obtain ⟨rfl, h2⟩ := hy.int_inv
  exact ⟨by simp [Builtin.min_, Builtin.min2], VRep.i fun hk => by have := h1 hk; have := h2 hk; split <;> omega⟩
theorem op_max {X : Nat → Prop} {ts : Array TypeId} {ty : TypeId} {k : IntKind} {x y : Int} {c d : Value} (hx : VRep ι X w (.int k x) c) (hy : VRep ι X w (.int k y) d) :
    (Builtin.max_ ts ty #[c, d]).run P w = .ok (.int k (if y > x then y else x)) w ∧ VRep ι X w (.int k (if y > x then y else x)) (.int k (if y > x then y else x)) := by
  obtain ⟨rfl, h1⟩ := hx.int_inv; obtain ⟨rfl, h2⟩ := hy.int_inv
  exact ⟨by simp [Builtin.max_, Builtin.max2], VRep.i fun hk => by have := h1 hk; have := h2 hk; split <;> omega⟩

/-! ### built values -/
/-- the parts, as operands have them -/
inductive PRep (ι : Nat → Option Cn) (X : Nat → Prop) (w : World) : List (Nat × V) → List (Nat × Value) → Prop
  | nil : PRep ι X w [] []
  | cons {j v c r s} (h : VRep ι X w v c) (hr : PRep ι X w r s) : PRep ι X w ((j, v) :: r) ((j, c) :: s)
theorem set_cells (off : Nat) : ∀ (zs : List Value) (k : Nat) (l : List Value), off + k + zs.length ≤ l.length →
    (zs.zipIdx k).foldl (fun (cs : Array Value) (x : Value × Nat) => cs.setIfInBounds (off + x.2) x.1) l.toArray = (l.take (off + k) ++ (zs ++ l.drop (off + k + zs.length))).toArray
  | [], k, l, _ => by simp
  | z :: zs, k, l, h => by
    rw [List.zipIdx_cons, List.foldl_cons]
    simp only [List.setIfInBounds_toArray]
    have h' : off + (k + 1) + zs.length ≤ (l.set (off + k) z).length := by simp at h ⊢; omega
    rw [set_cells off zs (k + 1) _ h']
    have h1 : off + k < l.length := by simp at h; omega
    rw [show off + (k + 1) = off + k + 1 by omega, set_take z h1, List.drop_set_of_lt (by omega)]
    simp only [List.append_assoc, List.cons_append, List.nil_append, List.length_cons]
    rw [show off + k + 1 + zs.length = off + k + (zs.length + 1) by omega]
/-- one part is laid -/
theorem fill_step {place : Nat → Option (Nat × Nat)} {pre cs post zs : List Value} {j off size : Nat} {c : Value} {r : List (Nat × Value)} (hp : place j = some (off, size)) (hz : c.cells.toList = zs) (h1 : pre.length = off) (h2 : cs.length = size) (h3 : zs.length = size) :
    Instr.fill place (pre ++ (cs ++ post)).toArray ((j, c) :: r) = Instr.fill place (pre ++ (zs ++ post)).toArray r := by
  have hsz : c.cells.size = size := by rw [← Array.length_toList, hz, h3]
  have hc : c.cells = zs.toArray := by rw [← hz]
  have hle : ¬ (pre ++ (cs ++ post)).toArray.size < off + size := by simp; omega
  rw [Instr.fill]
  simp only [hp, hsz]
  rw [if_neg (by simp; omega)]
  congr 1
  rw [hc]
  have := set_cells off zs 0 (pre ++ (cs ++ post)) (by simp; omega)
  have e : (pre ++ (cs ++ post)).take (off + 0) ++ (zs ++ (pre ++ (cs ++ post)).drop (off + 0 + zs.length)) = pre ++ (zs ++ post) := by
    rw [Nat.add_zero, ← h1, List.take_left, h3, ← h2, List.drop_append, List.drop_of_length_le (by omega), show pre.length + cs.length - pre.length = cs.length by omega, List.drop_left, List.nil_append]
  rw [e] at this
  rw [← this]
  simp
theorem fill_nil {place : Nat → Option (Nat × Nat)} {cs : Array Value} : Instr.fill place cs [] = some cs := by rw [Instr.fill]
theorem fill_struct {X : Nat → Prop} {place : Nat → Option (Nat × Nat)} {ss : List Sh} (hp : ∀ j s, nthL ss j = some s → place j = some (fldOff ss j, s.size)) :
    ∀ (ps : List (Nat × V)) (cs : List (Nat × Value)) (l l' : List V) (ds : List Value), PRep ι X w ps cs → isShs ss l = true → CReps ι X w l ds → buildP isSh ss l ps = some l' →
      ∃ ds', Instr.fill place ds.toArray cs = some ds'.toArray ∧ CReps ι X w l' ds'
  | [], cs, l, l', ds, hr, _, hd, hb => by
    cases hr
    injection hb with hb; subst hb
    exact ⟨ds, fill_nil, hd⟩
  | (j, x) :: ps, cs, l, l', ds, hr, hs, hd, hb => by
    cases hr with
    | cons hv hr =>
      rename_i c cs
      simp only [buildP] at hb
      cases hj : nthL ss j with
      | none => rw [hj] at hb; cases hb
      | some s =>
        simp only [hj] at hb
        obtain ⟨hx, hb⟩ := ofBif hb
        obtain ⟨v, hv', _⟩ := isShs_nth hs hj
        obtain ⟨pre, es, post, rfl, h1, h2, h3, h4⟩ := CReps.part hs hd hj hv'
        have hz := hv.cells hx
        have hzl := CRep.len hx hz
        rw [fill_step (hp j s hj) rfl h1 h2 hzl]
        exact fill_struct hp ps cs _ l' _ hr (isShs_set hs hj hx) (h4 x _ hz) hb
theorem setL_eq {α : Type} : ∀ (l : List α) (j : Nat) (x : α), setL l j x = l.set j x
  | [], _, _ => rfl
  | _ :: _, 0, _ => rfl
  | _ :: l, j + 1, x => by simp [setL, setL_eq l j x]
theorem fill_arr {X : Nat → Prop} {place : Nat → Option (Nat × Nat)} {e : Sh} (hp : ∀ j, place j = some (j * e.size, e.size)) :
    ∀ (ps : List (Nat × V)) (cs : List (Nat × Value)) (l l' : List V) (ds : List Value), PRep ι X w ps cs → (∀ x ∈ l, isR e x = true) → CReps ι X w l ds → buildA e l ps = some l' →
      ∃ ds', Instr.fill place ds.toArray cs = some ds'.toArray ∧ CReps ι X w l' ds' ∧ (∀ x ∈ l', isR e x = true) ∧ l'.length = l.length
  | [], cs, l, l', ds, hr, hs, hd, hb => by
    cases hr
    injection hb with hb; subst hb
    exact ⟨ds, fill_nil, hd, hs, rfl⟩
  | (j, x) :: ps, cs, l, l', ds, hr, hs, hd, hb => by
    cases hr with
    | cons hv hr =>
      rename_i c cs
      simp only [buildA] at hb
      obtain ⟨hx, hb⟩ := ofBif hb
      simp only [Bool.and_eq_true] at hx
      have hlt : j < l.length := Nat.le_of_ble_eq_true hx.2
      obtain ⟨pre, es, post, rfl, h1, h2, h3, h4⟩ := CReps.elem hd hs hlt
      have hz := hv.cells (isR_isSh hx.1)
      have hzl := CRep.len (isR_isSh hx.1) hz
      rw [fill_step (hp j) rfl h1 h2 hzl]
      rw [setL_eq] at hb
      obtain ⟨ds', k1, k2, k3, k4⟩ := fill_arr hp ps cs _ l' _ hr (fun y hy => by
        rcases List.mem_or_eq_of_mem_set hy with hy | hy
        · exact hs y hy
        · subst hy; exact hx.1) (h4 x _ hz) hb
      exact ⟨ds', k1, k2, k3, by rw [k4, List.length_set]⟩
theorem fill_bytes {X : Nat → Prop} {place : Nat → Option (Nat × Nat)} (hp : ∀ j, place j = some (j * 1, 1)) {n : Nat} :
    ∀ (ps : List (Nat × V)) (cs : List (Nat × Value)) (l l' : List UInt8), PRep ι X w ps cs → l.length = n → buildB n l ps = some l' →
      Instr.fill place (l.map bv).toArray cs = some (l'.map bv).toArray ∧ l'.length = n
  | [], cs, l, l', hr, hn, hb => by
    cases hr
    simp only [buildB] at hb
    injection hb with hb; subst hb
    exact ⟨fill_nil, hn⟩
  | (j, x) :: ps, cs, l, l', hr, hn, hb => by
    cases hr with
    | cons hv hr =>
      rename_i c cs
      have key : ∃ z, x = .int .u8 z := by
        cases x with
        | int k z => cases k <;> first | exact ⟨z, rfl⟩ | (simp [buildB] at hb; done)
        | _ => simp [buildB] at hb
      obtain ⟨z, rfl⟩ := key
      simp only [buildB] at hb
      obtain ⟨hx, hb⟩ := ofBif hb
      have hlt : j < l.length := by have : j < n := Nat.le_of_ble_eq_true hx; omega
      obtain ⟨rfl, hz⟩ := hv.int_inv
      have hsp : l.map bv = (l.take j).map bv ++ ([bv l[j]] ++ (l.drop (j + 1)).map bv) := by
        rw [← List.map_singleton, ← List.map_append, ← List.map_append]
        congr 1
        simp
      rw [hsp, fill_step (zs := [Value.int .u8 z]) (hp j) rfl (by simp; omega) rfl rfl]
      have e : (l.take j).map bv ++ ([Value.int .u8 z] ++ (l.drop (j + 1)).map bv) = (l.set j (u8 z)).map bv := by
        rw [set_split hlt, List.map_append, List.map_cons, bv_u8 (hz rfl)]
        rfl
      rw [e]
      rw [setL_eq] at hb
      exact fill_bytes hp ps cs _ l' hr (by rw [List.length_set]; exact hn) hb
theorem mapM_some {α β : Type} {g : α → Option β} {h : α → β} : ∀ (l : List α), (∀ x ∈ l, g x = some (h x)) → l.mapM g = some (l.map h)
  | [], _ => rfl
  | x :: l, hx => by simp [hx x (by simp), mapM_some l (fun y hy => hx y (by simp [hy]))]
theorem op_build {X : Nat → Prop} {t : TypeId} {sh : Sh} {ps : List (Nat × V)} {cs : Array (Nat × Value)} {v : V} (hz : zOk P t sh = true) (hpl : plcOk P t sh = true) (hr : PRep ι X w ps cs.toList) (hb : buildV sh ps = some v) :
    ∃ d, (Instr.build t cs).run P w = .ok d w ∧ VRep ι X w v d := by
  obtain ⟨z, hz1, hz2, hz3, hz4, hz5⟩ := zOk_spec hz
  clear hz4 hz5
  cases hit : P.info? t with
  | none => simp [hit] at hz1
  | some it =>
    have hz1' : it.zero = some z := by simpa [hit] using hz1
    have hzc : z.cells = (zeroC sh).toArray := by rw [← hz2]
    unfold plcOk at hpl
    split at hpl
    · rename_i fs ss hu
      simp only [Bool.and_eq_true, List.all_eq_true, List.mem_range] at hpl
      obtain ⟨h1, h2⟩ := hpl
      have h1 := Nat.eq_of_beq_eq_true h1
      simp only [buildV] at hb
      obtain ⟨l', hbb, rfl⟩ := Option.map_eq_some_iff.1 hb
      have hget : ∀ j s, nthL ss j = some s → ∃ f, fs[j]? = some f ∧ f.offset = fldOff ss j ∧ (P.info? f.type).map (·.size) = some s.size := by
        intro j s hj
        have hlt : j < ss.length := by
          rw [nthL_eq] at hj
          exact (List.getElem?_eq_some_iff.1 hj).1
        obtain ⟨fs', f, k1, k2, k3, k4, _⟩ := offOk_spec (h2 j hlt) hj
        rw [hu] at k1; injection k1 with k1; injection k1 with k1; subst k1
        exact ⟨f, k2, k3, k4⟩
      have hpm : fs.toList.mapM (fun f => (P.info? f.type).map fun i => (f.offset, i.size)) = some (fs.toList.map fun f => (f.offset, ((P.info? f.type).map (·.size)).getD 0)) := by
        apply mapM_some
        intro f hf
        obtain ⟨j, hj⟩ := List.getElem?_of_mem hf
        have hlt : j < ss.length := by
          have := (List.getElem?_eq_some_iff.1 hj).1
          simp at this; omega
        obtain ⟨f', k1, _, k2⟩ := hget j ss[j] (by rw [nthL_eq]; exact List.getElem?_eq_getElem hlt)
        rw [← Array.getElem?_toList, hj] at k1
        injection k1 with k1; subst k1
        cases hq : P.info? f.type with
        | none => simp [hq] at k2
        | some i => simp
      obtain ⟨q1, q2⟩ := zeroVs_rep (ι := ι) (w := w) ss (X := X) (by simpa [zGood] using hz3)
      obtain ⟨ds', r1, r2⟩ := fill_struct (place := fun j => (fs.toList.map fun f => (f.offset, ((P.info? f.type).map (·.size)).getD 0)).toArray[j]?) (fun j s hj => by
        obtain ⟨f, k1, k2, k3⟩ := hget j s hj
        rw [← Array.getElem?_toList] at k1
        simp only [List.getElem?_toArray, List.getElem?_map, k1, Option.map_some, k2, k3, Option.getD_some]) ps cs.toList _ l' _ hr q2 q1 hbb
      refine ⟨.agg ds'.toArray, run_build w t cs ds'.toArray ?_, .agg (.agg r2) rfl⟩
      unfold Program.built
      simp only [hit, hu, hz1', hpm]
      rw [hzc]
      exact r1
    · rename_i m e n hu
      simp only [Bool.and_eq_true] at hpl
      have h1 := Nat.eq_of_beq_eq_true hpl.1
      obtain ⟨h2, _⟩ := szOk_spec hpl.2
      simp only [buildV] at hb
      obtain ⟨l', hbb, rfl⟩ := Option.map_eq_some_iff.1 hb
      have hzz : zeroC (.barr n) = (List.replicate n (0 : UInt8)).map bv := by simp [zeroC, bv]
      cases hie : P.info? e with
      | none => simp [hie] at h2
      | some ie =>
        simp [hie, Sh.size] at h2
        obtain ⟨r1, r2⟩ := fill_bytes (ι := ι) (w := w) (X := X) (place := fun i => some (i * ie.size, ie.size)) (fun j => by rw [h2]) ps cs.toList _ l' hr (by simp) hbb
        refine ⟨.agg (l'.map bv).toArray, run_build w t cs _ ?_, .agg (.barr r2) rfl⟩
        unfold Program.built
        simp only [hit, hu, hz1', hie]
        rw [hzc, hzz]
        exact r1
    · rename_i m e n s hu
      simp only [Bool.and_eq_true] at hpl
      have h1 := Nat.eq_of_beq_eq_true hpl.1
      obtain ⟨h2, _⟩ := szOk_spec hpl.2
      simp only [buildV] at hb
      obtain ⟨l', hbb, rfl⟩ := Option.map_eq_some_iff.1 hb
      have hz := zeroR_rep (ι := ι) (w := w) (.arr n s) (X := X) hz3
      cases hz with
      | arr _ g1 g2 =>
        cases hie : P.info? e with
        | none => simp [hie] at h2
        | some ie =>
          simp [hie] at h2
          obtain ⟨ds', r1, r2, r3, r4⟩ := fill_arr (place := fun i => some (i * ie.size, ie.size)) (fun j => by rw [h2]) ps cs.toList _ l' _ hr g1 g2 hbb
          refine ⟨.agg ds'.toArray, run_build w t cs _ ?_, .agg (.arr (by simpa using r4) r3 r2) rfl⟩
          unfold Program.built
          simp only [hit, hu, hz1', hie]
          rw [hzc]
          exact r1
    · cases hpl

/-! ### rows that are made -/
theorem post_row (h : HSim ι O w0 hp w) {nid : Nat} (hn : ι nid = none) {T : TypeId} {sh : Sh} {v : V} {w' : World} {n c : Nat} {ds : List Value} (hb : Below w.heap.size w w')
    (ho : w'.ownsRow w.heap.size T sh.size (.slice (some ⟨w.heap.size, 0, none⟩) n c) n ds) (hr : RowC ι (Ex1 ι hp O) w n sh v ds) :
    Post ι O w0 hp w nid (.own nid n sh) [(nid, some (.row T sh v))] w' (.slice (some ⟨w.heap.size, 0, none⟩) n c) := by
  obtain ⟨a1, a2, a3⟩ := h.newRow (w' := w') (nid := nid) hn [] T sh v (A := some ⟨w.heap.size, 0, none⟩) (n := n) (c := c) (ds := ds) (h.keeps hb) (fun b hlt _ => hb.block b hlt) (fun a ha => by
    injection ha with ha; subst ha; exact .inr (Nat.le_refl _)) (ownsRow_base ho (Nat.zero_le _))
  refine ⟨updI ι nid (.row (some ⟨w.heap.size, 0, none⟩) n c T sh), a3 (hr.ext a1), a1, .one (.own updI_self fun _ => ⟨_, rfl⟩) rfl, fun id hid => ?_⟩
  unfold updI; rw [if_neg hid]
theorem op_make (h : HSim ι O w0 hp w) {nid : Nat} (hn : ι nid = none) {t T b : Nat} {n : Int} (he : elOf P t (.int .u8) = some (T, b)) (hz : zOk P T (.int .u8) = true) (h0 : 0 ≤ n) (h1 : n ≤ 9223372036854775807) (h2 : b * n.toNat ≤ 281474976710656) :
    ∃ c w', (Instr.makeSlice t (.int .i64 n) (.int .i64 n)).run P w = .ok c w' ∧ Post ι O w0 hp w nid (.own nid n.toNat (.int .u8)) [(nid, some (.row T (.int .u8) (.bytes (List.replicate n.toNat 0))))] w' c := by
  obtain ⟨i, z, hu, hi, hz1, e1, e2, _, e4, _⟩ := elOf_spec he
  obtain ⟨z', hz2, hz3, _⟩ := zOk_spec hz
  have : z' = z := by simp [hi, hz1] at hz2; exact hz2.symm
  subst this
  obtain ⟨m, rfl⟩ := Int.eq_ofNat_of_zero_le h0
  simp only [Int.toNat_natCast] at h2 ⊢
  obtain ⟨w', hrun, ho, hg⟩ := run_make_full (P := P) w w.heap.size t T i z' (Sh.int IntKind.u8).size hu hi hz1 e1 .i64 .i64 m (by rw [e4]; exact h2) (by unfold maxLen; omega) (Nat.le_refl _)
  refine ⟨_, w', hrun, post_row h hn ((Below.refl _ _).grown hg (Nat.le_refl _) (fun _ h => by cases h)) ho ?_⟩
  have hc : z'.cells = #[.int .u8 0] := by
    apply Array.ext'
    rw [hz3]; rfl
  have e : (madeCells z'.cells (m * (Sh.int IntKind.u8).size)).toList = (List.replicate m (0 : UInt8)).map bv := by
    rw [hc]
    simp only [Sh.size, Nat.mul_one]
    rw [toList_madeCells_one, List.map_replicate]
    rfl
  rw [e]
  have := RowC.bytes (ι := ι) (O := Ex1 ι hp O) (w := w) (l := List.replicate m (0 : UInt8))
  rwa [List.length_replicate] at this
theorem made_len (z : Array Value) (m sz : Nat) (hz : z.size = sz) (h0 : 0 < sz) : ((Array.range (m * sz)).map (z[· % z.size]!)).toList = (List.replicate m z.toList).flatten := by
  subst hz
  simp only [Array.toList_map, Array.toList_range]
  induction m with
  | zero => simp
  | succ m ih =>
    rw [List.replicate_succ', List.flatten_append, ← ih, Nat.add_mul, Nat.one_mul, List.range_add, List.map_append]
    congr 1
    simp only [List.flatten_cons, List.flatten_nil, List.append_nil, List.map_map]
    apply List.ext_getElem
    · simp
    · intro i h1 h2
      have hi : i < z.size := by simpa using h2
      have hm : (m * z.size + i) % z.size = i := by rw [Nat.mul_comm, Nat.mul_add_mod, Nat.mod_eq_of_lt hi]
      simp [hm, hi]
theorem run_buildSlice {t T : Nat} {sh : Sh} {b n : Nat} {ps : Array (Nat × Value)} {ds : List Value} (he : elOf P t sh = some (T, b)) (hz : zOk P T sh = true) (hn : n * sh.size ≤ 16777216)
    (hf : Instr.fill (fun i => some (i * sh.size, sh.size)) (List.replicate n (zeroC sh)).flatten.toArray ps.toList = some ds.toArray) :
    (Instr.buildSlice t n ps).run P w = .ok (.slice (some ⟨w.heap.size, 0, none⟩) n n) (w.alloc (.cells ds.toArray T)) := by
  obtain ⟨i, z, hu, hi, hz1, e1, e2, e3, _, _⟩ := elOf_spec he
  obtain ⟨z', hz2, hz3, _⟩ := zOk_spec hz
  have : z' = z := by simp [hi, hz1] at hz2; exact hz2.symm
  subst this
  have hc := made_len z'.cells n sh.size e2 e3
  rw [hz3] at hc
  rw [← hc] at hf
  simp only [Array.toArray_toList] at hf
  have hb : ¬ n * sh.size > 16777216 := by omega
  by_cases hz0 : n * sh.size = 0
  · have hn0 : n = 0 := by
      rcases Nat.mul_eq_zero.1 hz0 with h | h
      · exact h
      · omega
    subst hn0
    simp only [Nat.zero_mul] at hf
    simp [Instr.buildSlice, run_underlying hu, sizeOf, typeInfo, hi, e1, newRow]
    rw [show Array.range 0 = #[] from rfl] at hf ⊢
    simp only [Array.map_empty] at hf ⊢
    rw [hf]
    simp [newObj, Sem.run]
  · simp [Instr.buildSlice, run_underlying hu, sizeOf, typeInfo, hi, e1, hb, zeroValue, hz1, newRow, hz0, hf]
theorem op_buildB (h : HSim ι O w0 hp w) {nid : Nat} (hn : ι nid = none) {t T b n : Nat} {ps : List (Nat × V)} {cs : Array (Nat × Value)} {l : List UInt8} (he : elOf P t (.int .u8) = some (T, b)) (hz : zOk P T (.int .u8) = true) (hsz : n ≤ 16777216)
    (hr : PRep ι (Ex1 ι hp O) w ps cs.toList) (hb : buildB n (List.replicate n 0) ps = some l) :
    ∃ c w', (Instr.buildSlice t n cs).run P w = .ok c w' ∧ Post ι O w0 hp w nid (.own nid n (.int .u8)) [(nid, some (.row T (.int .u8) (.bytes l)))] w' c := by
  obtain ⟨r1, r2⟩ := fill_bytes (place := fun i => some (i * (Sh.int IntKind.u8).size, (Sh.int IntKind.u8).size)) (fun j => rfl) ps cs.toList _ l hr (by simp) hb
  have hrun := run_buildSlice (w := w) (ps := cs) (n := n) (ds := l.map bv) he hz (by simp only [Sh.size]; omega) (by
    have : (List.replicate n (zeroC (.int .u8))).flatten = (List.replicate n (0 : UInt8)).map bv := by
      clear r1 r2 hsz hb
      induction n with
      | zero => rfl
      | succ n ih => rw [List.replicate_succ, List.flatten_cons, ih]; rfl
    rw [this]; exact r1)
  subst r2
  refine ⟨_, _, hrun, post_row h hn ((Below.refl _ _).alloc (Nat.le_refl _) _) ?_ .bytes⟩
  have hown := Own.made (base := w.heap.size) w T l (l.map bv).toArray (by simp) (by omega) (Nat.le_refl _)
  exact hown.2
theorem op_buildR (h : HSim ι O w0 hp w) {nid : Nat} (hn : ι nid = none) {t T b n : Nat} {e : Sh} {vs xs : List V} {ks : List Nat} {cs : Array (Nat × Value)} {l : List V} (he : elOf P t e = some (T, b)) (hz : zOk P T e = true) (hR : isR e (zeroR e) = true) (hsz : n * e.size ≤ 16777216)
    (hv : VReps ι (Ex1 ι hp O) w vs (cs.toList.map (·.2))) (hk : cs.toList.map (·.1) = ks) (hlow : lows hp (List.replicate vs.length e) vs = some xs) (hb : buildA e (List.replicate n (zeroR e)) (ks.zip xs) = some l) :
    ∃ c w', (Instr.buildSlice t n cs).run P w = .ok c w' ∧ Post ι O w0 hp w nid (.own nid n e) ((nid, some (.row T e (.rows e l))) :: sealB hp (idss vs)) w' c := by
  obtain ⟨hs, hx⟩ := h.seals (idss vs)
  have hlr := lows_rep h hx vs hlow (Lent.seal h _) hv
  have hpr : PRep no (Ex1 ι (updH (sealB hp (idss vs)) hp) O) w (ks.zip xs) cs.toList := by
    clear hb hlow
    subst hk
    generalize cs.toList = cl at hlr ⊢
    induction cl generalizing xs with
    | nil => cases hlr; exact .nil
    | cons p cl ih =>
      cases hlr with
      | cons a b => exact .cons a (ih b)
  obtain ⟨z, _, hz3, hz4, _⟩ := zOk_spec hz
  have hz0 : CReps no (Ex1 ι (updH (sealB hp (idss vs)) hp) O) w (List.replicate n (zeroR e)) (List.replicate n (zeroC e)).flatten := by
    clear hb hsz
    induction n with
    | zero => exact .nil
    | succ n ih => rw [List.replicate_succ, List.replicate_succ, List.flatten_cons]; exact .cons (zeroR_rep e hz4) ih
  obtain ⟨ds, r1, r2, r3, r4⟩ := fill_arr (place := fun i => some (i * e.size, e.size)) (fun j => rfl) (ks.zip xs) cs.toList _ l _ hpr (fun y hy => by rw [List.eq_of_mem_replicate hy]; exact hR) hz0 hb
  have hln : l.length = n := by simpa using r4
  subst hln
  have hrun := run_buildSlice (w := w) (ps := cs) (n := l.length) (ds := ds) he hz hsz r1
  have r2' : CReps ι (Ex1 ι (updH (sealB hp (idss vs)) hp) O) w l ds := CReps.any_of (fun p q => CRep.any p q) r2 r3
  have hrc : RowC ι (Ex1 ι (updH (sealB hp (idss vs)) hp) O) w l.length e (.rows e l) ds := .rows r3 r2'
  have hpos : 0 < e.size := by obtain ⟨_, _, _, _, _, _, _, h3, _⟩ := elOf_spec he; exact h3
  have hll : l.length ≤ l.length * e.size := Nat.le_mul_of_pos_right _ hpos
  have hown : (w.alloc (.cells ds.toArray T)).ownsRow w.heap.size T e.size (.slice (some ⟨w.heap.size, 0, none⟩) l.length l.length) l.length ds := by
    have := World.ownsRow_lit (e := T) (size := e.size) w ds.toArray l.length (Nat.le_refl _) (by unfold maxLen; omega) (by simp [hrc.len])
    simpa using this
  obtain ⟨ι', p1, p2, p3, p4⟩ := post_row hs hn ((Below.refl _ _).alloc (Nat.le_refl _) _) hown hrc
  refine ⟨_, _, hrun, ι', ?_, ?_, ?_, p4⟩
  · rw [updH_cons]; exact p1
  · rw [updH_cons]; exact hx.trans p2
  · rw [updH_cons]; exact p3
end
end Go.Am
