/- What came in, opened: values made of integers alone. -/
import Derived.Test.YtmenonijbcljdaaFlat
import Derived.Test.YtmenonijbcljdaaOpen
import Derived.OpenShut
import Derived.ChangeArms
namespace Go.Bas
open Go Go.RowKit Go.ChangeShapes Go.WideShapes Go.ChangeAt

section
variable {H : Type} {enc : TypeId × Value → H} {P : Program} {w W : World} {base : Nat} {spare : Nat → Bool} {held : Bool}

def Wfs (ks : List IntKind) (ns : List Int) : Prop := ∀ p ∈ ks.zip ns, (Lit.int p.1 p.2).wf = true
theorem Wfs.app {k1 k2 : List IntKind} {n1 n2 : List Int} (h : n1.length = k1.length) (a : Wfs k1 n1) (b : Wfs k2 n2) : Wfs (k1 ++ k2) (n1 ++ n2) := by
  intro p hp
  rw [List.zip_append h.symm] at hp
  rcases List.mem_append.1 hp with h | h
  · exact a p h
  · exact b p h

theorem trod_flatFields {d : Nat} {m : Nat} (ih : ∀ t ks cs x, flat P d t = some ks → cs.length = ks.length → DataW.trod enc P W base spare held m t cs = some x → ∃ ns, cs = ints ks ns ∧ ns.length = ks.length ∧ Wfs ks ns) {cs : List Value} :
    ∀ (fs : List Field) (off : Nat) (ks : List IntKind), flatFields P (flat P d) off fs = some ks → cs.length = off + ks.length → (∀ f ∈ fs, ∃ x, DataW.trod enc P W base spare held m f.type ((cs.drop f.offset).take (P.cellsOf f.type)) = some x) →
      ∃ ns, cs.drop off = ints ks ns ∧ ns.length = ks.length ∧ Wfs ks ns
  | [], off, ks, h, hl, _ => by
    simp [flatFields] at h
    subst h
    exact ⟨[], by rw [List.drop_eq_nil_of_le (by simpa using Nat.le_of_eq hl)]; rfl, rfl, by intro p hp; simp at hp⟩
  | f :: fs, off, ks, h, hl, hall => by
    simp only [flatFields] at h
    cases hk : flat P d f.type with
    | none => simp [hk] at h
    | some k1 =>
      simp only [hk] at h
      split at h
      · rename_i hc
        obtain ⟨c1, c2, c3⟩ := hc
        cases hr : flatFields P (flat P d) (off + k1.length) fs with
        | none => simp [hr] at h
        | some k2 =>
          simp [hr] at h
          subst h
          obtain ⟨x, hx⟩ := hall f (by simp)
          obtain ⟨n1, e1, l1, w1⟩ := ih _ _ _ _ hk (by rw [c2, c3]; simp at hl ⊢; omega) hx
          obtain ⟨n2, e2, l2, w2⟩ := trod_flatFields ih fs (off + k1.length) k2 hr (by simp at hl; omega) (fun g hg => hall g (by simp [hg]))
          rw [c2, c3] at e1
          refine ⟨n1 ++ n2, ?_, by simp; omega, w1.app l1 w2⟩
          rw [ints_app l1, ← e1, ← e2, ← List.drop_drop, List.take_append_drop]
      · cases h

theorem trod_flatItems {m : Nat} {e : TypeId} {k1 : List IntKind} (ih : ∀ cs x, cs.length = k1.length → DataW.trod enc P W base spare held m e cs = some x → ∃ ns, cs = ints k1 ns ∧ ns.length = k1.length ∧ Wfs k1 ns) {cs : List Value} :
    ∀ (r i : Nat), cs.length = i * k1.length + r * k1.length → (∀ j, i ≤ j → j < i + r → ∃ x, DataW.trod enc P W base spare held m e ((cs.drop (j * k1.length)).take k1.length) = some x) →
      ∃ ns, cs.drop (i * k1.length) = ints (List.replicate r k1).flatten ns ∧ ns.length = (List.replicate r k1).flatten.length ∧ Wfs (List.replicate r k1).flatten ns
  | 0, i, hl, _ => ⟨[], by rw [List.drop_eq_nil_of_le (by omega)]; rfl, rfl, by intro p hp; simp at hp⟩
  | r + 1, i, hl, hall => by
    obtain ⟨x, hx⟩ := hall i (Nat.le_refl _) (by omega)
    obtain ⟨n1, e1, l1, w1⟩ := ih _ _ (by rw [List.length_take, List.length_drop, hl, Nat.succ_mul]; omega) hx
    obtain ⟨n2, e2, l2, w2⟩ := trod_flatItems ih r (i + 1) (by rw [hl, Nat.succ_mul, Nat.succ_mul]; omega) (fun j h1 h2 => hall j (by omega) (by omega))
    refine ⟨n1 ++ n2, ?_, by rw [List.replicate_succ, List.flatten_cons]; simp; simp at l2; omega, ?_⟩
    · rw [List.replicate_succ, List.flatten_cons, ints_app l1, ← e1, ← e2, Nat.succ_mul, ← List.drop_drop, List.take_append_drop]
    · rw [List.replicate_succ, List.flatten_cons]
      exact w1.app l1 w2

theorem trod_flat : ∀ (d m : Nat) (t : TypeId) (ks : List IntKind) (cs : List Value) (x : DataW H × List MemPlace), flat P d t = some ks → cs.length = ks.length → DataW.trod enc P W base spare held m t cs = some x →
    ∃ ns, cs = ints ks ns ∧ ns.length = ks.length ∧ Wfs ks ns := by
  intro d
  induction d with
  | zero => intro m t ks cs x h; simp [flat] at h
  | succ d ih =>
    intro m t ks cs x h hcl hx
    cases hu : P.underlying t with
    | none => simp [flat, hu] at h
    | some kd =>
      cases kd <;> (try (simp [flat, hu] at h; done))
      case int k =>
        simp [flat, hu] at h
        subst h
        obtain ⟨n, rfl, -, hw⟩ := DataW.trod_int hu hx
        exact ⟨[n], rfl, rfl, by intro p hp; simp at hp; subst hp; exact hw⟩
      case struct fs =>
        simp only [flat, hu] at h
        split at h
        · cases h
        · obtain ⟨xs, m', -, -, hl, hxl, hel⟩ := DataW.trod_struct hu hx
          have := trod_flatFields (P := P) (W := W) (enc := enc) (base := base) (spare := spare) (held := held) (d := d) (m := m') (cs := cs) (fun t ks cs x h1 h2 h3 => ih m' t ks cs x h1 h2 h3) fs.toList 0 ks h (by omega) (fun f hf => by
            obtain ⟨i, hi⟩ := List.getElem?_of_mem hf
            have h1 := hel i f (by simpa using hi)
            have hlt : i < xs.length := by
              rw [hxl]
              rcases Nat.lt_or_ge i fs.size with h2 | h2
              · exact h2
              · rw [List.getElem?_eq_none (by simpa using h2)] at hi; cases hi
            rw [List.getElem?_eq_getElem hlt] at h1
            exact ⟨_, h1⟩)
          simpa using this
      case array n e =>
        simp only [flat, hu] at h
        cases hk : flat P d e with
        | none => simp [hk] at h
        | some k1 =>
          simp only [hk] at h
          split at h
          · rename_i hc
            injection h with h
            subst h
            obtain ⟨xs, m', -, -, hl, hxl, hel⟩ := DataW.trod_array hu hx
            have := trod_flatItems (P := P) (W := W) (enc := enc) (base := base) (spare := spare) (held := held) (m := m') (e := e) (k1 := k1) (cs := cs) (fun cs x h2 h3 => ih m' e k1 cs x hk h2 h3) n 0 (by rw [hcl]; simp) (fun j _ hj => by
              have h1 := hel j (by omega)
              rw [hc, List.getElem?_eq_getElem (by omega)] at h1
              exact ⟨_, h1⟩)
            simpa using this
          · cases h
/-- a struct, or an array, of integers that came in -/
theorem open_flat {d : Nat} {t : TypeId} {ks : List IntKind} (hf : flat P d t = some ks) {td : TypeDesc} (hut : P.underlying t = some td) (hd : (match td with | .struct _ | .array _ _ => true | _ => false) = true) (hc : P.cellsOf t = ks.length) {base : Nat} {v : Value} {x : DataW H} {p : List MemPlace}
    (hv : Value.okWide P W .any base t v) (h : DataW.Trod enc P W 0 (fun _ => true) true t v x p) : ∃ ns, v = .agg (ints ks ns).toArray ∧ ns.length = ks.length ∧ Wfs ks ns := by
  obtain ⟨fuel, h⟩ := h
  have key : ∀ cs, v = .agg cs → cs.size = P.cellsOf t → ∃ ns, v = .agg (ints ks ns).toArray ∧ ns.length = ks.length ∧ Wfs ks ns := by
    rintro cs rfl hs
    obtain ⟨ns, e, h1, h2⟩ := trod_flat d fuel t ks cs.toList _ hf (by simpa [hc] using hs) h
    refine ⟨ns, ?_, h1, h2⟩
    rw [← e]
  cases td <;> simp at hd <;> (simp only [Value.okWide, hut] at hv; obtain ⟨cs, rfl, hs, _⟩ := hv; exact key cs rfl hs)
end
end Go.Bas
