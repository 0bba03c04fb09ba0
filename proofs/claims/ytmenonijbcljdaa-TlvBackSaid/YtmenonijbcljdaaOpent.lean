/- A slice of parts that came in, opened. -/
import Derived.Test.YtmenonijbcljdaaOpen
import Derived.Test.YtmenonijbcljdaaTls
namespace Go.Bas
open Go Go.RowKit Go.ChangeShapes Go.WideShapes Go.ChangeAt

section
variable {H : Type} {enc : TypeId × Value → H} {P : Program} {w W : World}

/-- a []byte in a cell -/
theorem trod_bs {t e : TypeId} (ht : P.underlying t = some (.slice e)) (he : P.underlying e = some (.int .u8)) (hc : P.cellsOf e = 1) {fuel : Nat} {cs : List Value} {x : DataW H × List MemPlace}
    (h : DataW.trod enc P W 0 (fun _ => true) true fuel t cs = some x) :
    ∃ A n c l, cs = [.slice A n c] ∧ Bs W A n c l ∧ (P.bytesOf e = 1 → n = 0 ∨ ∃ k ∈ x.1.weights P t, n ≤ k) := by
  rcases open_ints ht he hc h with ⟨rfl, -⟩ | ⟨x, n, c, zs, rfl, _, hl, hm, hz, rfl, hcell, hwz⟩
  · exact ⟨none, 0, 0, [], rfl, Bs.nil _ _ _ (by omega), fun _ => .inl rfl⟩
  · simp only [if_true] at hz
    refine ⟨some x, n, c, (zs.take n).map fun z => UInt8.ofNat z.toNat, rfl, ⟨by simp; omega, hl, by simpa [maxLen] using hm, fun hne => ?_⟩, fun hb => .inr ⟨((lits .u8 (zs.take n)).length + (lits .u8 (zs.drop n)).length) * P.bytesOf e, by simp only [DataW.weights, ht]; exact List.mem_cons.2 (.inl rfl), by rw [hb]; simp [lits]; omega⟩⟩
    have hn : 0 < n := by
      rcases Nat.eq_zero_or_pos n with h0 | h0
      · subst h0; simp at hne
      · exact h0
    obtain ⟨b, off, spot⟩ := x
    have hc0 := hcell 0 (by omega)
    have hspot : spot = none := by simpa [Addr.add] using World.cell?_spot hc0
    subst hspot
    refine ⟨b, off, rfl, World.block_lt_of_cell? _ _ (by simpa [Addr.add] using hc0), fun j hj => ?_⟩
    have hjn : j < n := by simp at hj; omega
    have hcj := hcell j (by omega)
    rw [add_lit0] at hcj
    rw [hcj]
    have hzj : zs[j]? = some (zs.getD j 0) := by rw [List.getD_eq_getElem?_getD, List.getElem?_eq_getElem (by omega)]; rfl
    have hmem : zs.getD j 0 ∈ zs := List.mem_of_getElem? hzj
    have hwf := hwz _ hmem
    have hb : 0 ≤ zs.getD j 0 ∧ zs.getD j 0 ≤ 255 := by simpa [Lit.wf, IntKind.min, IntKind.max, IntKind.signed, IntKind.bits] using hwf
    have : gt ((zs.take n).map fun z => UInt8.ofNat z.toNat) j = zs.getD j 0 := by
      unfold gt
      rw [List.getD_eq_getElem?_getD, List.getElem?_map, List.getElem?_take, if_pos hjn, hzj]
      simp only [Option.map_some, Option.getD_some]
      rw [UInt8.toNat_ofNat']
      omega
    rw [this]

theorem weightsAll_mem {e : TypeId} : ∀ {l : List (DataW H)} {d : DataW H}, d ∈ l → ∀ n ∈ d.weights P e, n ∈ DataW.weightsAll P e l
  | x :: r, d, h, n, hn => by
    rw [DataW.weightsAll, List.mem_append]
    rcases List.mem_cons.1 h with rfl | h
    · exact .inl hn
    · exact .inr (weightsAll_mem h n hn)

/-- a slice of parts that came in -/
theorem open_tls {t e ti ts eb : TypeId} {f0 f1 : Field} (ht : P.underlying t = some (.slice e)) (he : P.underlying e = some (.struct #[f0, f1])) (h0 : f0.type = ti) (h1 : f1.type = ts) (ho0 : f0.offset = 0) (ho1 : f1.offset = 1)
    (hti : P.underlying ti = some (.int .i64)) (hts : P.underlying ts = some (.slice eb)) (heb : P.underlying eb = some (.int .u8)) (hce : P.cellsOf e = 2) (hci : P.cellsOf ti = 1) (hcs : P.cellsOf ts = 1) (hcb : P.cellsOf eb = 1) {base : Nat} {v : Value} {d : DataW H} {p : List MemPlace}
    (hv : Value.okWide P W .any base t v) (h : DataW.Trod enc P W 0 (fun _ => true) true t v d p) : ∃ A n c L, v = .slice A n c ∧ Tls W A n c L ∧ (P.bytesOf eb = 1 → ∀ q ∈ L, q.2.length = 0 ∨ ∃ k ∈ d.weights P t, q.2.length ≤ k) := by
  obtain ⟨A, n, c, rfl⟩ := okWide_slice ht hv
  obtain ⟨fuel, hf⟩ := h
  rcases DataW.trod_slice ht hf with ⟨hcs0, hx⟩ | ⟨a, len, cap, elems, rest, m, -, hcs0, hxd, hb, hl, hm, hlen, hel, -, -⟩
  · simp [Value.cells] at hcs0
    obtain ⟨rfl, rfl, rfl⟩ := hcs0
    exact ⟨none, 0, 0, [], rfl, Tls.nil _ _ _ (by omega), fun _ q hq => by simp at hq⟩
  · simp [Value.cells] at hcs0
    obtain ⟨rfl, rfl, rfl⟩ := hcs0
    have each : ∀ i, i < n → ∃ (kd : Int) (A' : Option Addr) (n' c' : Nat) (l : List UInt8), W.cell? (a.add (i * 2)) = some (.int .i64 kd) ∧ W.cell? ((a.add (i * 2)).add 1) = some (.slice A' n' c') ∧ Bs W A' n' c' l ∧ (P.bytesOf eb = 1 → l.length = 0 ∨ ∃ k ∈ d.weights P t, l.length ≤ k) := by
      intro i hi
      have hi' := hel i hi
      have hs : elems[i]? = some elems[i] := List.getElem?_eq_getElem (by omega)
      rw [hs, hce] at hi'
      obtain ⟨cs, hcs1, hr⟩ := Option.bind_eq_some_iff.1 hi'
      obtain ⟨y0, y1, fu, hyx, hl2, e0, e1⟩ := trod_struct2 he hr
      obtain ⟨hcl, hce2⟩ := World.cells?_some hcs1
      rw [h0, ho0, hci, List.drop_zero] at e0
      rw [h1, ho1, hcs] at e1
      obtain ⟨kd, k1, -, -⟩ := DataW.trod_int hti e0
      obtain ⟨A', n', c', l, k2, k3, k4⟩ := trod_bs hts heb hcb e1
      refine ⟨kd, A', n', c', l, ?_, ?_, k3, fun hb => ?_⟩
      rotate_left 2
      · rw [← k3.len]
        rcases k4 hb with h5 | ⟨k, h5, h6⟩
        · exact .inl h5
        · refine .inr ⟨k, ?_, h6⟩
          have hd : d = .slice (elems.map (·.1)) (rest.map (·.1)) := by injection hxd
          have hmem : elems[i].1 ∈ elems.map (·.1) := List.mem_map.2 ⟨elems[i], List.getElem_mem _, rfl⟩
          have hk : k ∈ elems[i].1.weights P e := by
            rw [hyx]
            simp only [DataW.weights, he, List.map_cons, List.map_nil, DataW.weightsEach, h1]
            simp [h5]
          rw [hd]
          simp only [DataW.weights, ht]
          exact List.mem_cons.2 (.inr (List.mem_append.2 (.inl (weightsAll_mem hmem k hk))))
      · have q0 := hce2.2 0 (by omega)
        rw [show ((a.add (i * 2)).add 0) = a.add (i * 2) by simp [Addr.add]] at q0
        rw [q0]
        have := congrArg (·[0]?) k1
        simpa using this
      · rw [hce2.2 1 (by omega)]
        have := congrArg (·[0]?) k2
        simpa using this
    have hex : ∃ L : List (Int × List UInt8), L.length = n ∧ ∀ j (hj : j < L.length), ∃ A' n' c', W.cell? (a.add (j * 2)) = some (.int .i64 (L[j].1)) ∧ W.cell? ((a.add (j * 2)).add 1) = some (.slice A' n' c') ∧ Bs W A' n' c' (L[j].2) ∧ (P.bytesOf eb = 1 → L[j].2.length = 0 ∨ ∃ k ∈ d.weights P t, L[j].2.length ≤ k) := by
      clear hel hlen hf hv hxd
      induction n with
      | zero => exact ⟨[], rfl, fun j hj => by simp at hj⟩
      | succ n ih =>
        obtain ⟨L, hL, hj⟩ := ih (by omega) (fun i hi => each i (by omega))
        obtain ⟨kd, A', n', c', l, q1, q2, q3, q4⟩ := each n (by omega)
        refine ⟨L ++ [(kd, l)], by simp [hL], fun j hj2 => ?_⟩
        simp at hj2
        rcases Nat.lt_or_ge j L.length with hlt | hge
        · rw [List.getElem_append_left hlt]
          exact hj j hlt
        · obtain rfl : j = n := by omega
          have e1 : (L ++ [(kd, l)])[j]'(by simp; omega) = (kd, l) := by
            rw [List.getElem_append_right (by omega)]
            simp [hL]
          rw [e1]
          exact ⟨A', n', c', q1, q2, q3, q4⟩
    obtain ⟨L, hL, hj⟩ := hex
    refine ⟨some a, n, c, L, rfl, ⟨hL.symm, hl, by simpa [maxLen] using hm, fun j hj1 => ?_⟩, fun hb q hq => by
      obtain ⟨j, hj1, rfl⟩ := List.getElem_of_mem hq
      obtain ⟨_, _, _, _, _, _, q4⟩ := hj j hj1
      exact q4 hb⟩
    obtain ⟨A', n', c', q1, q2, q3, -⟩ := hj j hj1
    obtain ⟨b, off, spot⟩ := a
    have hspot : spot = none := by
      obtain ⟨_, _, _, q0, _⟩ := hj 0 (by omega)
      simpa [Addr.add] using World.cell?_spot q0
    subst hspot
    rw [add_lit0] at q1
    simp only [add_lit0] at q2
    exact ⟨b, off, rfl, World.block_lt_of_cell? _ _ q1, q1, A', n', c', q2, q3⟩
theorem tls_reach {ts : List TypeId} {ds : List (DataW H)} (hsz : (DataW.weightsEach P ts ds).all (· ≤ reachBytes) = true) {j : Nat} {t : TypeId} {d : DataW H} {L : List (Int × List UInt8)} (ht : ts[j]? = some t) (hd : ds[j]? = some d)
    (hz : ∀ q ∈ L, q.2.length = 0 ∨ ∃ k ∈ d.weights P t, q.2.length ≤ k) : ∀ q ∈ L, q.2.length ≤ 140737488355328 := by
  intro q hq
  rcases hz q hq with h | ⟨k, h1, h2⟩
  · omega
  · have h3 := List.all_eq_true.1 hsz _ (DataW.weights_mem_each ht hd k h1)
    have h4 : k ≤ reachBytes := by simpa using h3
    have : reachBytes = 140737488351232 := rfl
    omega
end
end Go.Bas
