/- What came in, opened: arrays and structs of bytes. -/
import Derived.Test.YtmenonijbcljdaaFrame
import Derived.ChangeSame
namespace Go.Bas
open Go Go.RowKit Go.ChangeShapes Go.WideShapes Go.ChangeAt

section
variable {H : Type} {enc : TypeId × Value → H} {P : Program} {w W : World}

theorem bytes_of_cells {cs : List Value} (h : ∀ i, i < cs.length → ∃ n : Int, cs[i]? = some (.int .u8 n) ∧ (Lit.int .u8 n).wf = true) : ∃ l : List UInt8, cs = l.map bv := by
  refine ⟨cs.map fun v => (match v with | .int _ n => UInt8.ofNat n.toNat | _ => 0), ?_⟩
  apply List.ext_getElem?
  intro i
  rcases Nat.lt_or_ge i cs.length with hi | hi
  · obtain ⟨n, h1, h2⟩ := h i hi
    rw [List.getElem?_map, List.getElem?_map, h1]
    have hb := bounds_u8 h2
    simp only [Option.map_some, bv]
    rw [UInt8.toNat_ofNat']
    congr 2
    omega
  · rw [List.getElem?_eq_none (by omega), List.getElem?_eq_none (by simp; omega)]

theorem trod_bytes_arr {t e : TypeId} {m : Nat} (ht : P.underlying t = some (.array m e)) (he : P.underlying e = some (.int .u8)) (hc : P.cellsOf e = 1) (hct : P.cellsOf t = m) {base : Nat} {spare : Nat → Bool} {held : Bool} {fuel : Nat} {cs : List Value} {x : DataW H × List MemPlace}
    (h : DataW.trod enc P w base spare held fuel t cs = some x) : ∃ l : List UInt8, cs = l.map bv ∧ l.length = m := by
  obtain ⟨xs, fu, rfl, hx, hlen, hxl, hel⟩ := DataW.trod_array ht h
  rw [hct] at hlen
  obtain ⟨l, rfl⟩ := bytes_of_cells (cs := cs) (fun i hi => by
    have h1 := hel i (by omega)
    rw [hc, Nat.mul_one] at h1
    have h2 : xs[i]? = some xs[i] := List.getElem?_eq_getElem (by omega)
    rw [h2] at h1
    obtain ⟨n, h3, _, h4⟩ := DataW.trod_int he h1
    refine ⟨n, ?_, h4⟩
    have : ((cs.drop i).take 1)[0]? = some (.int .u8 n) := by rw [h3]; rfl
    simpa using this)
  exact ⟨l, rfl, by simpa using hlen⟩

/-- a struct of two addresses that came in -/
theorem open_pair {t s0 s1 e : TypeId} {f0 f1 : Field} {m : Nat} (ht : P.underlying t = some (.struct #[f0, f1])) (h0 : f0.type = s0) (h1 : f1.type = s1) (ho0 : f0.offset = 0) (ho1 : f1.offset = m)
    (hs0 : P.underlying s0 = some (.array m e)) (hs1 : P.underlying s1 = some (.array m e)) (he : P.underlying e = some (.int .u8)) (hc : P.cellsOf e = 1) (hc0 : P.cellsOf s0 = m) (hc1 : P.cellsOf s1 = m) (hct : P.cellsOf t = 2 * m) {base : Nat} {v : Value} {d : DataW H} {p : List MemPlace}
    (hv : Value.okWide P W .any base t v) (h : DataW.Trod enc P W 0 (fun _ => true) true t v d p) : ∃ l : List UInt8, v = av l ∧ l.length = 2 * m := by
  simp only [Value.okWide, ht] at hv
  obtain ⟨cs, rfl, hsz, _⟩ := hv
  obtain ⟨fuel, hf⟩ := h
  obtain ⟨y0, y1, fu, -, hl, e0, e1⟩ := trod_struct2 ht hf
  rw [h0, ho0, hc0, List.drop_zero] at e0
  rw [h1, ho1, hc1] at e1
  obtain ⟨l0, q0, n0⟩ := trod_bytes_arr hs0 he hc hc0 e0
  obtain ⟨l1, q1, n1⟩ := trod_bytes_arr hs1 he hc hc1 e1
  rw [hct] at hl
  simp only [Value.cells] at hl q0 q1
  refine ⟨l0 ++ l1, ?_, by simp; omega⟩
  unfold av
  congr 1
  apply Array.ext'
  rw [List.map_append, ← q0, ← q1]
  rw [List.take_of_length_le (l := cs.toList.drop m) (by simp at hl ⊢; omega)]
  simp
end
end Go.Bas
