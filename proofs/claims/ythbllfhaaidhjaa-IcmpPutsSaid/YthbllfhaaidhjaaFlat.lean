/- Values made of integers alone: when two are the same. -/
import Derived.Test.YthbllfhaaidhjaaBase
import Derived.ChangeKeysEq
import Derived.Laws.StructEq
namespace Go.Bas
open Go Go.RowKit Go.Mix

def ints (ks : List IntKind) (ns : List Int) : List Value := List.zipWith Value.int ks ns
theorem ints_len {ks : List IntKind} {ns : List Int} (h : ns.length = ks.length) : (ints ks ns).length = ks.length := by simp [ints, h]
theorem ints_app {k1 k2 : List IntKind} {n1 n2 : List Int} (h : n1.length = k1.length) : ints (k1 ++ k2) (n1 ++ n2) = ints k1 n1 ++ ints k2 n2 := by
  unfold ints; exact List.zipWith_append h.symm
theorem ints_split {k1 k2 : List IntKind} {ns : List Int} (h : ns.length = (k1 ++ k2).length) : ∃ n1 n2, ns = n1 ++ n2 ∧ n1.length = k1.length ∧ n2.length = k2.length := by
  refine ⟨ns.take k1.length, ns.drop k1.length, by simp, ?_, ?_⟩ <;> simp at h ⊢ <;> omega

def flatFields (P : Program) (g : TypeId → Option (List IntKind)) : Nat → List Field → Option (List IntKind)
  | _, [] => some []
  | off, f :: fs => match g f.type with
    | some ks => if f.name ≠ "_" ∧ f.offset = off ∧ P.cellsOf f.type = ks.length then (flatFields P g (off + ks.length) fs).map (ks ++ ·) else none
    | none => none
def flat (P : Program) : Nat → TypeId → Option (List IntKind)
  | 0, _ => none
  | d + 1, t => match P.underlying t with
    | some (.int k) => some [k]
    | some (.struct fs) => if P.stoodInHeld t then none else flatFields P (flat P d) 0 fs.toList
    | some (.array n e) => match flat P d e with
      | some ks => if P.cellsOf e = ks.length then some (List.replicate n ks).flatten else none
      | none => none
    | _ => none
def pack (P : Program) (t : TypeId) (cs : List Value) : Value :=
  match P.underlying t with
  | some (.struct _) | some (.array _ _) => .agg cs.toArray
  | _ => cs.headD undef

section
variable {P : Program}
def EqF (P : Program) (D : Nat) (t : TypeId) (ks : List IntKind) : Prop :=
  ∀ (ns ms : List Int) (w : World), ns.length = ks.length → ms.length = ks.length → (Op.equalIn D t (pack P t (ints ks ns)) (pack P t (ints ks ms))).run P w = .ok (ns == ms) w

theorem part_flat {d : Nat} {e : TypeId} {ks : List IntKind} (h : flat P d e = some ks) (hc : P.cellsOf e = ks.length) {xs : List Value} {off : Nat} {ns : List Int} (hn : ns.length = ks.length)
    (hx : (xs.drop off).take ks.length = ints ks ns) (w : World) : (part e xs.toArray off).run P w = .ok (pack P e (ints ks ns)) w := by
  cases d with
  | zero => simp [flat] at h
  | succ d =>
    have agg : (∃ n e', P.underlying e = some (.array n e')) ∨ (∃ fs, P.underlying e = some (.struct fs)) → (part e xs.toArray off).run P w = .ok (pack P e (ints ks ns)) w := by
      intro hk
      rw [← hc] at hx
      rcases hk with ⟨n, e', hu⟩ | ⟨fs, hu⟩ <;> obtain ⟨i, hi⟩ := info_of_underlying hu <;> simp [part, isAgg, run_underlying hu, run_sizeOf w hi, pack, hu, hx]
    cases hu : P.underlying e with
    | none => simp [flat, hu] at h
    | some kd =>
      cases kd <;> first
        | (simp [flat, hu] at h; done)
        | exact agg (.inl ⟨_, _, hu⟩)
        | exact agg (.inr ⟨_, hu⟩)
        | skip
      simp [flat, hu] at h
      subst h
      match ns, hn with
      | [n], _ =>
        rename_i k0 _
        have h0 : xs[off]? = some (.int k0 n) := by
          have : ((xs.drop off).take 1)[0]? = some (.int k0 n) := by rw [show (1 : Nat) = [k0].length from rfl, hx]; rfl
          simpa using this
        simp [part, isAgg, run_underlying hu, pack, hu, h0, ints]

theorem beq_app {a b c d : List Int} (h : a.length = c.length) : (a ++ b == c ++ d) = (a == c && b == d) := by
  rw [Bool.eq_iff_iff]
  simp only [beq_iff_eq, Bool.and_eq_true]
  constructor
  · intro e; exact List.append_inj e h
  · rintro ⟨rfl, rfl⟩; rfl

theorem eqFields_flat {d D : Nat} (hg : ∀ t ks, flat P d t = some ks → EqF P D t ks) : ∀ (fs : List Field) (off : Nat) (ks : List IntKind) (ns ms : List Int) (xs ys : List Value) (w : World), flatFields P (flat P d) off fs = some ks →
    ns.length = ks.length → ms.length = ks.length → xs.drop off = ints ks ns → ys.drop off = ints ks ms → (Op.eqFields D xs.toArray ys.toArray fs).run P w = .ok (ns == ms) w
  | [], off, ks, ns, ms, xs, ys, w, h, hn, hm, _, _ => by
    simp [flatFields] at h
    subst h
    simp at hn hm
    subst hn; subst hm
    simp [Op.eqFields]
  | f :: fs, off, ks, ns, ms, xs, ys, w, h, hn, hm, hx, hy => by
    simp only [flatFields] at h
    cases hk : flat P d f.type with
    | none => simp [hk] at h
    | some k1 =>
      simp only [hk] at h
      split at h
      · rename_i hc
        obtain ⟨c1, c2, c3⟩ := hc
        cases hr : flatFields P (flat P d) (off + k1.length) fs with
        | none => simp [hr] at h
        | some k2 =>
          simp [hr] at h
          subst h
          obtain ⟨n1, n2, rfl, l1, l2⟩ := ints_split hn
          obtain ⟨m1, m2, rfl, l3, l4⟩ := ints_split hm
          rw [ints_app l1] at hx
          rw [ints_app l3] at hy
          have hx1 : (xs.drop off).take k1.length = ints k1 n1 := by rw [hx, List.take_append_of_le_length (by rw [ints_len l1]; omega), List.take_of_length_le (by rw [ints_len l1]; omega)]
          have hy1 : (ys.drop off).take k1.length = ints k1 m1 := by rw [hy, List.take_append_of_le_length (by rw [ints_len l3]; omega), List.take_of_length_le (by rw [ints_len l3]; omega)]
          have hx2 : xs.drop (off + k1.length) = ints k2 n2 := by rw [← List.drop_drop, hx, ← ints_len l1, List.drop_left]
          have hy2 : ys.drop (off + k1.length) = ints k2 m2 := by rw [← List.drop_drop, hy, ← ints_len l3, List.drop_left]
          have ih := eqFields_flat hg fs _ k2 n2 m2 xs ys w hr l2 l4 hx2 hy2
          have p1 := part_flat hk c3 l1 hx1 w
          have p2 := part_flat hk c3 l3 hy1 w
          rw [← c2] at p1 p2
          have e1 := hg _ _ hk n1 m1 w l1 l3
          simp only [Op.eqFields, c1, ne_eq, not_false_eq_true, if_true, Sem.run_bind, p1, p2, e1, Result.andThen_ok, beq_app (l1.trans l3.symm)]
          cases n1 == m1
          · simp
          · simp [ih]
      · cases h

theorem eqItems_flat {d D : Nat} {e : TypeId} {k1 : List IntKind} (hk : flat P d e = some k1) (hc : P.cellsOf e = k1.length) (hg : EqF P D e k1) (xs ys : List Value) (w : World) : ∀ (m i : Nat) (ns ms : List Int),
    ns.length = (List.replicate m k1).flatten.length → ms.length = (List.replicate m k1).flatten.length → xs.drop (i * k1.length) = ints (List.replicate m k1).flatten ns → ys.drop (i * k1.length) = ints (List.replicate m k1).flatten ms →
    (Op.eqItems D e (P.cellsOf e) xs.toArray ys.toArray (List.range' i m)).run P w = .ok (ns == ms) w
  | 0, i, ns, ms, hn, hm, _, _ => by
    simp at hn hm
    subst hn; subst hm
    simp [Op.eqItems]
  | m + 1, i, ns, ms, hn, hm, hx, hy => by
    rw [List.replicate_succ, List.flatten_cons] at hn hm hx hy
    obtain ⟨n1, n2, rfl, l1, l2⟩ := ints_split hn
    obtain ⟨m1, m2, rfl, l3, l4⟩ := ints_split hm
    rw [ints_app l1] at hx
    rw [ints_app l3] at hy
    have hx1 : (xs.drop (i * k1.length)).take k1.length = ints k1 n1 := by rw [hx, List.take_append_of_le_length (by rw [ints_len l1]; omega), List.take_of_length_le (by rw [ints_len l1]; omega)]
    have hy1 : (ys.drop (i * k1.length)).take k1.length = ints k1 m1 := by rw [hy, List.take_append_of_le_length (by rw [ints_len l3]; omega), List.take_of_length_le (by rw [ints_len l3]; omega)]
    have hx2 : xs.drop ((i + 1) * k1.length) = ints (List.replicate m k1).flatten n2 := by rw [Nat.succ_mul, ← List.drop_drop, hx, ← ints_len l1, List.drop_left]
    have hy2 : ys.drop ((i + 1) * k1.length) = ints (List.replicate m k1).flatten m2 := by rw [Nat.succ_mul, ← List.drop_drop, hy, ← ints_len l3, List.drop_left]
    have ih := eqItems_flat hk hc hg xs ys w m (i + 1) n2 m2 l2 l4 hx2 hy2
    have p1 := part_flat hk hc l1 hx1 w
    have p2 := part_flat hk hc l3 hy1 w
    have e1 := hg n1 m1 w l1 l3
    rw [List.range'_succ]
    rw [← hc] at p1 p2
    simp only [Op.eqItems, Sem.run_bind, p1, p2, e1, Result.andThen_ok, beq_app (l1.trans l3.symm)]
    cases n1 == m1
    · simp
    · simp [ih]

theorem eq_flat : ∀ (d : Nat) (t : TypeId) (ks : List IntKind), flat P d t = some ks → ∀ D, d ≤ D → EqF P D t ks
  | 0, _, _, h, _, _ => by simp [flat] at h
  | d + 1, t, ks, h, 0, hD => by omega
  | d + 1, t, ks, h, D + 1, hD => by
    intro ns ms w hn hm
    have ih : ∀ t ks, flat P d t = some ks → EqF P D t ks := fun t ks h => eq_flat d t ks h D (by omega)
    cases hu : P.underlying t with
    | none => simp [flat, hu] at h
    | some kd =>
      cases kd <;> (try (simp [flat, hu] at h; done))
      case int k =>
        simp [flat, hu] at h
        subst h
        match ns, ms, hn, hm with
        | [n], [m], _, _ =>
          simp only [pack, hu, ints, List.zipWith_cons_cons, List.headD_cons]
          rw [run_equalIn_int w D t k k n m hu]
          simp
      case struct fs =>
        simp only [flat, hu] at h
        split at h
        · cases h
        · rename_i hp
          have hfo : P.fieldsOf t = fs := by simp [Program.fieldsOf, hu]
          simp only [pack, hu]
          rw [run_equalIn_struct w D t _ _ (by rw [hfo]; exact hu) (by simpa using hp), hfo]
          exact eqFields_flat ih fs.toList 0 ks ns ms _ _ w h hn hm (by simp) (by simp)
      case array n e =>
        simp only [flat, hu] at h
        cases hk : flat P d e with
        | none => simp [hk] at h
        | some k1 =>
          simp only [hk] at h
          split at h
          · rename_i hc
            injection h with h
            subst h
            have hi : ∃ i, P.info? e = some i := by
              cases hue : P.underlying e with
              | none => cases d <;> simp [flat, hue] at hk
              | some _ => exact info_of_underlying hue
            obtain ⟨i, hi⟩ := hi
            simp only [pack, hu]
            rw [run_equalIn_array w D _ _ hu hi, List.range_eq_range']
            exact eqItems_flat hk hc (ih e k1 hk) _ _ w n 0 ns ms hn hm (by simp) (by simp)
          · cases h

theorem eql_flat {d : Nat} {t : TypeId} {ks : List IntKind} (h : flat P d t = some ks) (hd : Nat.ble d 10000 = true) (hu : (match P.underlying t with | some (.struct _) | some (.array _ _) => true | _ => false) = true) {ns ms : List Int} (hn : ns.length = ks.length) (hm : ms.length = ks.length) (w : World) :
    (binOp .eql t (.agg (ints ks ns).toArray) (.agg (ints ks ms).toArray)).run P w = .ok (.bool (ns == ms)) w := by
  have := eq_flat d t ks h 10000 (Nat.le_of_ble_eq_true hd) ns ms w hn hm
  unfold pack at this
  rw [run_eql_struct]
  cases hq : P.underlying t with
  | none => simp [hq] at hu
  | some kd => cases kd <;> simp [hq] at hu <;> (simp only [hq] at this; rw [this]; rfl)
theorem neq_flat {d : Nat} {t : TypeId} {ks : List IntKind} (h : flat P d t = some ks) (hd : Nat.ble d 10000 = true) (hu : (match P.underlying t with | some (.struct _) | some (.array _ _) => true | _ => false) = true) {ns ms : List Int} (hn : ns.length = ks.length) (hm : ms.length = ks.length) (w : World) :
    (binOp .neq t (.agg (ints ks ns).toArray) (.agg (ints ks ms).toArray)).run P w = .ok (.bool (ns != ms)) w := by
  have := eq_flat d t ks h 10000 (Nat.le_of_ble_eq_true hd) ns ms w hn hm
  unfold pack at this
  rw [run_neq_struct]
  cases hq : P.underlying t with
  | none => simp [hq] at hu
  | some kd => cases kd <;> simp [hq] at hu <;> (simp only [hq] at this; rw [this]; rfl)
end
end Go.Bas
