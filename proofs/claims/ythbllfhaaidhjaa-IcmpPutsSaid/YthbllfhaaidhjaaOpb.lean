/- All arguments of a law, opened at once; a law that answers true by the machine. -/
import Derived.Test.YthbllfhaaidhjaaOpa
import Derived.Test.YthbllfhaaidhjaaAmx
import Derived.Test.YthbllfhaaidhjaaFrame
namespace Go.Am
open Go Go.RowKit Go.ChangeShapes Go.WideShapes Go.ChangeAt Go.Bas
section
variable {H : Type} {enc : TypeId × Value → H} {P : Program} {w : World}
def argB (P : Program) (D : Nat) (t : TypeId) : Bool :=
  layB P D t && (match P.underlying t with
    | some (.int _) | some .bool | some .string | some (.slice _) | some (.struct _) | some (.array _ _) => true
    | _ => false)
theorem open_arg {D : Nat} {t : TypeId} {sh : Sh} (hl : argB P D t = true) (hs : shOf P D t = some sh) {base : Nat} {v : Value} {d : DataW H} {p : List MemPlace}
    (hv : Value.okWide P w .any base t v) (h : DataW.Trod enc P w 0 (fun _ => true) true t v d p) :
    ∃ x, VRep no (fun _ => False) w x v ∧ isR sh x = true ∧ ∀ M, (∀ k ∈ d.weights P t, k ≤ M) → inR M sh x = true := by
  unfold argB at hl
  obtain ⟨h1, h2⟩ := (Bool.and_eq_true _ _).mp hl
  cases D with
  | zero => cases h1
  | succ D =>
    have hs' := hs
    unfold shOf at hs'
    split at h2
    · rename_i k hu
      rw [hu] at hs'; injection hs' with hs'; subst hs'
      obtain ⟨n, rfl⟩ := okWide_int hu hv
      exact open_val h1 hs (by rw [hu]; rfl) hv (fun _ => rfl) h
    · rename_i hu
      rw [hu] at hs'; injection hs' with hs'; subst hs'
      obtain ⟨n, rfl⟩ := okWide_bool hu hv
      exact open_val h1 hs (by rw [hu]; rfl) hv (fun _ => rfl) h
    · rename_i hu
      rw [hu] at hs'; injection hs' with hs'; subst hs'
      obtain ⟨n, rfl⟩ := okWide_string hu hv
      exact open_val h1 hs (by rw [hu]; rfl) hv (fun _ => rfl) h
    · rename_i e hu
      rw [hu] at hs'
      obtain ⟨A, n, c, rfl⟩ := okWide_slice hu hv
      have ha : sh.isAgg = false := by
        revert hs'
        simp only
        split
        · intro hq; injection hq with hq; subst hq; rfl
        · intro hq; injection hq with hq; subst hq; rfl
        · intro hq; cases hq
      exact open_val h1 hs (by rw [hu, ha]) hv (fun _ => rfl) h
    · rename_i fs hu
      rw [hu] at hs'
      have ha : sh.isAgg = true := by
        obtain ⟨l, _, rfl⟩ := Option.map_eq_some_iff.1 hs'
        rfl
      exact open_val h1 hs (by rw [hu, ha]) hv (fun hq => by rw [ha] at hq; cases hq) h
    · rename_i n e hu
      rw [hu] at hs'
      have ha : sh.isAgg = true := by
        revert hs'
        simp only
        split
        · intro hq; injection hq with hq; subst hq; rfl
        · intro hq; injection hq with hq; subst hq; rfl
        · intro hq; cases hq
      exact open_val h1 hs (by rw [hu, ha]) hv (fun hq => by rw [ha] at hq; cases hq) h
    · cases h2
theorem open_args {D : Nat} {base : Nat} : ∀ {ts : List TypeId} {vs : List Value} {ds : List (DataW H)} {p : List MemPlace} {shs : List Sh}, DataW.TrodAll enc P w 0 (fun _ => true) true ts vs ds p →
    (∀ (j : Nat) t v, ts[j]? = some t → vs[j]? = some v → Value.okWide P w .any base t v) → ts.all (argB P D) = true → mapO (shOf P D) ts = some shs →
    ∃ xs, VReps no (fun _ => False) w xs vs ∧ isRs shs xs = true ∧ ∀ M, (∀ k ∈ DataW.weightsEach P ts ds, k ≤ M) → inRs M shs xs = true
  | [], vs, ds, p, shs, h, _, _, hs => by
    obtain ⟨rfl, rfl, rfl⟩ := trodAll_nil h
    injection hs with hs; subst hs
    exact ⟨[], .nil, rfl, fun _ _ => rfl⟩
  | t :: ts, vs, ds, p, shs, h, hv, ha, hs => by
    obtain ⟨v, vs', d, ds', p1, q1, rfl, rfl, rfl, h1, h2⟩ := trodAll_cons h
    simp only [List.all_cons, Bool.and_eq_true] at ha
    simp only [mapO] at hs
    split at hs
    · rename_i s hs1
      split at hs
      · rename_i ss hs2
        injection hs with hs; subst hs
        obtain ⟨x, a1, a2, a3⟩ := open_arg ha.1 hs1 (hv 0 t v rfl rfl) h1
        obtain ⟨xs, b1, b2, b3⟩ := open_args h2 (fun j t v e1 e2 => hv (j + 1) t v e1 e2) ha.2 hs2
        refine ⟨x :: xs, .cons a1 b1, by simp only [isRs, a2, b2]; rfl, fun M hM => ?_⟩
        simp only [inRs, Bool.and_eq_true]
        exact ⟨a3 M fun k hk => hM k (List.mem_append_left _ hk), b3 M fun k hk => hM k (List.mem_append_right _ hk)⟩
      · cases hs
    · cases hs
/-- a law that answers true by the machine -/
theorem law_calls {E : Env} (hE : EnvOk E) {f : FuncId} {af : AF} (haf : AfOk E.P f af) {D base : Nat} {ts : List TypeId} {args : List Value} {ds : List (DataW H)} {p : List MemPlace} {shs : List Sh} (M : Nat)
    (hA : DataW.TrodAll enc E.P w 0 (fun _ => true) true ts args ds p) (hval : ∀ (j : Nat) t v, ts[j]? = some t → args[j]? = some v → Value.okWide E.P w .any base t v) (ha : ts.all (argB E.P D) = true) (hs : mapO (shOf E.P D) ts = some shs)
    (hsz : ∀ k ∈ DataW.weightsEach E.P ts ds, k ≤ M) (hlaw : ∀ xs, inRs M shs xs = true → callV E af xs = some (.bool true)) : Calls E.P f args.toArray w fun e w' => e = .returned (.bool true) ∧ Below w.heap.size w w' := by
  obtain ⟨xs, h1, _, h3⟩ := open_args hA hval ha hs
  exact (callV_ok hE haf (hlaw xs (h3 M hsz))).true h1
theorem trodAll_len : ∀ {ts : List TypeId} {vs : List Value} {ds : List (DataW H)} {p : List MemPlace}, DataW.TrodAll enc P w 0 (fun _ => true) true ts vs ds p → ds.length = ts.length
  | [], vs, ds, p, h => by obtain ⟨rfl, rfl, rfl⟩ := trodAll_nil h; rfl
  | t :: ts, vs, ds, p, h => by
    obtain ⟨v, vs', d, ds', p1, q1, rfl, rfl, rfl, h1, h2⟩ := trodAll_cons h
    simp [trodAll_len h2]
theorem par_of {ts : List TypeId} (h : ts.all (fun t => P.readableRec t && Nat.blt t P.types.size) = true) : ∀ t ∈ ts, P.readableRec t = true ∧ t < P.types.size := by
  intro t ht
  have := List.all_eq_true.1 h t ht
  simp only [Bool.and_eq_true] at this
  exact ⟨this.1, Nat.le_of_ble_eq_true this.2⟩
theorem weights_of {ts us : List TypeId} {ds : List (DataW H)} {M : Nat} (hu : us = []) (h : (DataW.weightsEach P (ts ++ us) (ds ++ [])).all (· ≤ M) = true) : ∀ k ∈ DataW.weightsEach P ts ds, k ≤ M := by
  subst hu
  rw [List.append_nil, List.append_nil] at h
  intro k hk
  simpa using List.all_eq_true.1 h k hk
/-- an argument of each type for a witness -/
def zArg (P : Program) (D : Nat) (t : TypeId) : Value :=
  match shOf P D t with
  | some sh => if sh.isAgg then .agg (zeroC sh).toArray else (zeroC sh).headD Go.undef
  | none => Go.undef
/-! ### what is of a shape -/
theorem inRs_nil {M : Nat} {xs : List V} (h : inRs M [] xs = true) : xs = [] := by cases xs <;> simp [inRs] at h; rfl
theorem inRs_cons {M : Nat} {s : Sh} {r : List Sh} {xs : List V} (h : inRs M (s :: r) xs = true) : ∃ x l, xs = x :: l ∧ inR M s x = true ∧ inRs M r l = true := by
  cases xs with
  | nil => simp [inRs] at h
  | cons x l => simp only [inRs, Bool.and_eq_true] at h; exact ⟨x, l, rfl, h.1, h.2⟩
theorem inR_i64 {M : Nat} {x : V} (h : inR M (.int .i64) x = true) : ∃ n : Int, x = .int .i64 n ∧ -9223372036854775808 ≤ n ∧ n ≤ 9223372036854775807 := by
  cases x with
  | int k n =>
    simp only [inR, Bool.and_eq_true] at h
    have := of_decide_eq_true h.1
    subst this
    exact ⟨n, rfl, wf_i64 h.2⟩
  | _ => simp [inR] at h
theorem inR_u32 {M : Nat} {x : V} (h : inR M (.int .u32) x = true) : ∃ n : Int, x = .int .u32 n ∧ 0 ≤ n ∧ n ≤ 4294967295 := by
  cases x with
  | int k n =>
    simp only [inR, Bool.and_eq_true] at h
    have := of_decide_eq_true h.1
    subst this
    exact ⟨n, rfl, wf_u32 h.2⟩
  | _ => simp [inR] at h
theorem inR_u8 {M : Nat} {x : V} (h : inR M (.int .u8) x = true) : ∃ n : Int, x = .int .u8 n ∧ 0 ≤ n ∧ n ≤ 255 := by
  cases x with
  | int k n =>
    simp only [inR, Bool.and_eq_true] at h
    have := of_decide_eq_true h.1
    subst this
    exact ⟨n, rfl, Go.Bas.wf_u8 h.2⟩
  | _ => simp [inR] at h
theorem inR_bool {M : Nat} {x : V} (h : inR M .bool x = true) : ∃ b, x = .bool b := by
  cases x <;> simp [inR] at h; exact ⟨_, rfl⟩
theorem inR_str {M : Nat} {x : V} (h : inR M .str x = true) : ∃ l : List UInt8, x = .str l ∧ l.length ≤ M := by
  cases x <;> simp [inR] at h; exact ⟨_, rfl, h⟩
theorem inR_bytes {M : Nat} {x : V} (h : inR M .bytes x = true) : ∃ l : List UInt8, x = .bytes l ∧ l.length ≤ M := by
  cases x <;> simp [inR] at h; exact ⟨_, rfl, h⟩
theorem inR_barr {M n : Nat} {x : V} (h : inR M (.barr n) x = true) : ∃ l : List UInt8, x = .barr n l ∧ l.length = n := by
  cases x <;> simp [inR] at h
  obtain ⟨rfl, h⟩ := h
  exact ⟨_, rfl, h⟩
theorem inR_agg {M : Nat} {ss : List Sh} {x : V} (h : inR M (.agg ss) x = true) : ∃ l, x = .agg l ∧ inRs M ss l = true := by
  cases x <;> simp [inR] at h; exact ⟨_, rfl, h⟩
theorem inR_rows {M : Nat} {e : Sh} {x : V} (h : inR M (.rows e) x = true) : ∃ l, x = .rows e l ∧ l.length ≤ M ∧ ∀ y ∈ l, inR M e y = true := by
  cases x with
  | rows f l =>
    simp only [inR, Bool.and_eq_true] at h
    have e1 := Sh.beq_eq h.1
    subst e1
    exact ⟨l, rfl, Nat.le_of_ble_eq_true h.2.1, fun y hy => List.all_eq_true.1 h.2.2 y hy⟩
  | _ => simp [inR] at h
theorem inR_arr {M n : Nat} {e : Sh} {x : V} (h : inR M (.arr n e) x = true) : ∃ l, x = .arr e n l ∧ l.length = n ∧ ∀ y ∈ l, inR M e y = true := by
  cases x with
  | arr f m l =>
    simp only [inR, Bool.and_eq_true] at h
    have e1 := Nat.eq_of_beq_eq_true h.1
    subst e1
    have e1 := Sh.beq_eq h.2.1
    subst e1
    exact ⟨l, rfl, Nat.eq_of_beq_eq_true h.2.2.1, fun y hy => List.all_eq_true.1 h.2.2.2 y hy⟩
  | _ => simp [inR] at h
end
end Go.Am
