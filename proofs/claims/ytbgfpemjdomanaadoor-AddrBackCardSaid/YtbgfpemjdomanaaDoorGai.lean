/- Part Gai of the proof: laws used by the law of this claim. -/
import Derived.Test.YtbgfpemjdomanaaDoorGaf
import Derived.Test.YtbgfpemjdomanaaDoorGf
set_option linter.all false
namespace Go.Proofs.YtbgfpemjdomanaaDoor
open Go Go.Am Go.RowKit Go.Mix Go.Bas
set_option maxRecDepth 100000
/-- the numbers of pieces -/
def gnL (l : List V) : List V := l.map fun v => .int .i64 (grN (toS v))
def gkL (l : List V) : Bool := l.all fun v => grB (toS v)
def gpW (l : List V) : Option Blk := some (.row 9 .str (.rows .str l))
def gpA (l : List V) : S := ⟨[(12, .own 0 l.length .str), (13, .int .i64 l.length), (14, .int .i64 0), (4, .nils)], [(0, gpW l)], 1, true, 31⟩
def gpB (l : List V) (i : Int) (o : List V) : S := ⟨[(12, .own 0 l.length .str), (13, .int .i64 l.length), (14, .int .i64 i), (4, .own 1 o.length (.int .i64))], [(0, gpW l), (1, some (.row 3 (.int .i64) (.rows (.int .i64) o)))], 2, true, 31⟩
structure GpI where
  (l : List V)
  (i : Int)
  (o : List V)
def gpGet (s : S) : GpI := ⟨toR (bkD s 0), toI (lkD s 14), toR (bkD s 1)⟩
def gpSt (x : GpI) : S := if x.i = 0 then gpA x.l else gpB x.l x.i x.o
def gpR : S := ⟨[(2, .nils), (3, .bool false)], [], 0, true, 31⟩
def gpX0 : S := ⟨[(4, .nils)], [], 0, true, 31⟩
def gpX1 (o : List V) : S := ⟨[(4, .own 0 o.length (.int .i64))], [(0, some (.row 3 (.int .i64) (.rows (.int .i64) o)))], 1, true, 31⟩
def gpI (x : GpI) : Prop := 0 ≤ x.i ∧ x.i ≤ x.l.length ∧ x.l.length ≤ 1000 ∧ x.o.length = x.i ∧ ∀ v ∈ x.l, (toS v).length ≤ 4294967296
def gpO (x : GpI) : Tr := .br (gkL (x.l.drop x.i.toNat)) (.br ((x.o ++ gnL (x.l.drop x.i.toNat)).isEmpty) (.leaf (.exit 0) gpX0) (.leaf (.exit 0) (gpX1 (x.o ++ gnL (x.l.drop x.i.toNat))))) (.leaf .ret gpR)
noncomputable def gpG : S → Option (Bool × Tr) := gX gpGet gpSt gpI gpO
noncomputable def af_adGroupsS : AF := afOf Tryd.prog Tryd.f27 [.sum [12, 13, 14, 4] [] gpG]
noncomputable def gpC : AC := (af_adGroupsS.ac.sums.headD (.skip, [], [], fun _ => none)).1
theorem gpA_b (l : List V) : aev Eadgs (inlN Eadgs 6) gpC (bodyF (Am.ways [12, 13, 14, 4] [4] [2, 3]) []) (gpA l) =
 bif decide ((0 : Int) < (↑l.length : Int)) then
 bif andT true (inB (0 : Int) l.length) then
 bif andT true (decide ((toS (l.getD (0 : Nat) V.undef)).length ≤ (4294967296 : Nat))) then
 bif !grB (toS (l.getD (0 : Nat) V.undef)) then some (Ex.ret, gpR)
 else
 some
 (Ex.normal,
 gpB l (1 : Int)
 (V.int IntKind.i64 (grN (toS (l.getD (0 : Nat) V.undef))) ::
 List.replicate (nat_lit 0) (V.int IntKind.i64 (0 : Int))))
 else none
 else none
 else some (Ex.exit (0 : Nat), gpX0) := by kernel_rfl

theorem gpB_b (l : List V) (i : Int) (o : List V) : aev Eadgs (inlN Eadgs 6) gpC (bodyF (Am.ways [12, 13, 14, 4] [4] [2, 3]) []) (gpB l i o) =
 bif decide (i < (↑l.length : Int)) then
 bif andT true (inB i l.length) then
 bif andT true (decide ((toS (l.getD i.toNat V.undef)).length ≤ (4294967296 : Nat))) then
 bif !grB (toS (l.getD i.toNat V.undef)) then some (Ex.ret, gpR)
 else
 bif
 andT true
 (((o ++
 V.int IntKind.i64 (grN (toS (l.getD i.toNat V.undef))) ::
 List.replicate (nat_lit 0) (V.int IntKind.i64 (0 : Int))).length *
 (8 : Nat)).ble
 (140737488355328 : Nat)) then
 some
 (Ex.normal,
 gpB l (IntKind.i64.wrap (i + (1 : Int)))
 (o ++
 V.int IntKind.i64 (grN (toS (l.getD i.toNat V.undef))) ::
 List.replicate (nat_lit 0) (V.int IntKind.i64 (0 : Int))))
 else none
 else none
 else none
 else some (Ex.exit (0 : Nat), gpX1 o) := by kernel_rfl

theorem gnL_cons {l : List V} {i : Nat} (h : i < l.length) : gnL (l.drop i) = .int .i64 (grN (toS (l.getD i .undef))) :: gnL (l.drop (i + 1)) := by
  rw [drop_next (d := .undef) h]; rfl
theorem gkL_cons {l : List V} {i : Nat} (h : i < l.length) : gkL (l.drop i) = (grB (toS (l.getD i .undef)) && gkL (l.drop (i + 1))) := by
  rw [drop_next (d := .undef) h]; rfl
theorem gp_loop : LoopOk Tryd.prog gpC.erase [] gpG := by
  refine loopX_ok Eadgs_ok (d := 6) (AC.flat_ok (by kernel_rfl)) (Am.ways [12, 13, 14, 4] [4] [2, 3]) [] gpGet gpSt gpO gpI (fun x => (x.l.length - x.i).toNat) (fun x => by unfold gpSt; split <;> rfl) ?_
  rintro ⟨l, i, o⟩ ⟨h0, h1, h2, h3, h4⟩
  simp only at h0 h1 h2 h3 h4 ⊢
  have hr : ∀ k, k < l.length → (toS (l.getD k .undef)).length ≤ 4294967296 := by
    intro k hk
    rw [List.getD_eq_getElem?_getD, List.getElem?_eq_getElem hk]
    exact h4 _ (List.getElem_mem hk)
  by_cases hz : i = 0
  · subst hz
    obtain rfl : o = [] := List.length_eq_zero_iff.1 (by omega)
    rw [show gpSt ⟨l, 0, []⟩ = gpA l from if_pos rfl, gpA_b]
    by_cases hi : 0 < l.length
    · rw [dec_t (show (0 : Int) < (l.length : Int) by omega), inB_t (Int.le_refl _) (by omega), dec_t (hr 0 hi)]
      cases hg : grB (toS (l.getD 0 .undef)) with
      | true =>
        refine .inl ⟨⟨l, 1, [.int .i64 (grN (toS (l.getD 0 .undef)))]⟩, rfl, ⟨by dsimp only; omega, by dsimp only; omega, h2, rfl, h4⟩, by dsimp only; omega, leaf_eq ?_⟩
        unfold gpO
        dsimp only
        rw [show (0 : Int).toNat = 0 from rfl, show (1 : Int).toNat = 1 from rfl, gnL_cons hi, gkL_cons hi, hg]
        rfl
      | false =>
        refine .inr ⟨.ret, gpR, rfl, nofun, ?_⟩
        unfold gpO
        dsimp only
        rw [show (0 : Int).toNat = 0 from rfl, gkL_cons hi, hg]
        exact leaf_f rfl .leaf
    · refine .inr ⟨.exit 0, gpX0, ?_, nofun, ?_⟩
      · rw [dec_f (show ¬ (0 : Int) < (l.length : Int) by omega)]
        rfl
      · unfold gpO
        dsimp only
        rw [List.drop_of_length_le (by omega)]
        exact leaf_t rfl (leaf_t rfl .leaf)
  · rw [show gpSt ⟨l, i, o⟩ = gpB l i o from if_neg hz, gpB_b]
    by_cases hi : i < l.length
    · have hk : i.toNat < l.length := by omega
      have ho : (o ++ V.int .i64 (grN (toS (l.getD i.toNat .undef))) :: List.replicate (nat_lit 0) (V.int .i64 0)).length = o.length + 1 := by simp
      rw [dec_t hi, inB_t h0 hi, dec_t (hr _ hk), ho, show ((o.length + 1) * 8).ble 140737488355328 = true from Nat.ble_eq.mpr (by omega), w64 (by omega) (by omega)]
      cases hg : grB (toS (l.getD i.toNat .undef)) with
      | true =>
        refine .inl ⟨⟨l, i + 1, o ++ [.int .i64 (grN (toS (l.getD i.toNat .undef)))]⟩, ?_, ⟨by dsimp only; omega, by dsimp only; omega, h2, by dsimp only; rw [List.length_append, List.length_singleton]; omega, h4⟩, by dsimp only; omega, leaf_eq ?_⟩
        · rw [show gpSt ⟨l, i + 1, o ++ [.int .i64 (grN (toS (l.getD i.toNat .undef)))]⟩ = gpB l (i + 1) (o ++ [.int .i64 (grN (toS (l.getD i.toNat .undef)))]) from if_neg (show ¬ i + 1 = 0 by omega)]
          rfl
        · unfold gpO
          dsimp only
          rw [gnL_cons hk, gkL_cons hk, hg, show (i + 1).toNat = i.toNat + 1 by omega, List.append_assoc]
          rfl
      | false =>
        refine .inr ⟨.ret, gpR, rfl, nofun, ?_⟩
        unfold gpO
        dsimp only
        rw [gkL_cons hk, hg]
        exact leaf_f rfl .leaf
    · refine .inr ⟨.exit 0, gpX1 o, ?_, nofun, ?_⟩
      · rw [dec_f hi]
        rfl
      · unfold gpO
        dsimp only
        rw [List.drop_of_length_le (by omega), show gnL [] = [] from rfl, List.append_nil]
        refine leaf_t rfl (leaf_f ?_ .leaf)
        cases o with
        | nil => simp at h3; omega
        | cons => rfl
theorem af_adGroupsS_ok : AllOk Tryd.prog 27 af_adGroupsS := .sums Tryd.func27 (by kernel_rfl) (by kernel_rfl) (by kernel_rfl) (by kernel_rfl) (sums_one (c := gpC) (ts := [12, 13, 14, 4]) (by kernel_rfl) (by kernel_rfl) gp_loop)
/-! ### the pieces -/
theorem piece_le (sep : ByteArray) : ∀ (k : Nat) (s : ByteArray), ∀ x ∈ Lib.splitB sep 0 k s, x.size ≤ s.size
  | 0, s, x, h => by
    rw [Lib.splitB_zero, List.mem_singleton] at h
    rw [h]; exact Nat.le_refl _
  | k + 1, s, x, h => by
    unfold Lib.splitB at h
    split at h
    · rw [List.mem_singleton] at h
      rw [h]; exact Nat.le_refl _
    · rw [List.mem_cons] at h
      rcases h with h | h
      · rw [h, ByteArray.size_extract]; omega
      · have := piece_le sep k _ x h
        rw [ByteArray.size_extract] at this
        omega
theorem pieces_str (s t : List UInt8) (h : s.length ≤ 1000) : ∀ v ∈ pieces s t, (toS v).length ≤ 4294967296 := by
  intro v hv
  unfold pieces at hv
  rw [List.mem_map] at hv
  obtain ⟨b, hb, rfl⟩ := hv
  have := piece_le _ _ _ b hb
  show b.data.toList.length ≤ _
  have e : b.data.toList.length = b.size := rfl
  have e2 : (⟨s.toArray⟩ : ByteArray).size = s.length := by show s.toArray.size = _; simp
  omega
theorem pieces_len (s : List UInt8) (h : s.length ≤ 900) : (pieces s [58]).length ≤ 1000 := by
  unfold pieces
  rw [List.length_map, splitB_len _ (by decide)]
  have := Lib.countB_le ⟨#[58]⟩ (by decide) s.length ⟨s.toArray⟩ (by show s.toArray.size ≤ _; simp)
  have e2 : (⟨s.toArray⟩ : ByteArray).size = s.length := by show s.toArray.size = _; simp
  show Lib.countB ⟨s.toArray⟩ ⟨#[58]⟩ + 1 ≤ 1000
  omega
/-- the numbers that groups tell; whether they are groups -/
def gsL (s : List UInt8) : List V := if s = [] then [] else if gkL (pieces s [58]) = true then gnL (pieces s [58]) else []
def gsB (s : List UInt8) : Bool := s == [] || gkL (pieces s [58])
theorem adGroupsS_u (s : List UInt8) : callV Eadgs af_adGroupsS [.str s] = (bif s == [] then some (V.tup [V.ownv 3 (V.rows (Sh.int IntKind.i64) []), V.bool true]) else bif andT true (decide (s.length < 4294967281 ∧ 1 ≤ 1)) then bif okG (gpA (pieces s [58]) = gpSt ⟨pieces s [58], 0, []⟩ ∧ gpI ⟨pieces s [58], 0, []⟩) then bif gkL ((pieces s [58]).drop 0) then bif ([] ++ gnL ((pieces s [58]).drop 0)).isEmpty then some (V.tup [V.ownv 3 (V.rows (Sh.int IntKind.i64) []), V.bool true]) else some (V.tup [V.ownv 3 (V.rows (Sh.int IntKind.i64) ([] ++ gnL ((pieces s [58]).drop 0))), V.bool true]) else some (V.tup [V.ownv 3 (V.rows (Sh.int IntKind.i64) []), V.bool false]) else none else none) := by kernel_rfl
theorem adGroupsS_v (s : List UInt8) (h : s.length ≤ 900) : callV Eadgs af_adGroupsS [.str s] = some (.tup [.ownv 3 (.rows (.int .i64) (gsL s)), .bool (gsB s)]) := by
  rw [adGroupsS_u]
  by_cases c : s = []
  · subst c
    rfl
  · have e1 : (s == []) = false := by simpa using c
    have e2 : gsB s = gkL (pieces s [58]) := by unfold gsB; rw [e1, Bool.false_or]
    have e3 : gsL s = if gkL (pieces s [58]) = true then gnL (pieces s [58]) else [] := by unfold gsL; rw [if_neg c]
    rw [e1, e2, e3]
    rw [cond_false]
    rw [dec_t (show s.length < 4294967281 ∧ 1 ≤ 1 by omega), okG_t ⟨(if_pos rfl).symm, Int.le_refl _, by dsimp only; omega, pieces_len s h, rfl, pieces_str s _ (by omega)⟩, List.drop_zero, List.nil_append]
    cases gkL (pieces s [58]) with
    | false => rfl
    | true =>
      cases gnL (pieces s [58]) with
      | nil => rfl
      | cons => rfl
def cAdGroups : List V → Option (V × Bool)
  | [.str s] => some (.tup [.ownv 3 (.rows (.int .i64) (gsL s)), .bool (gsB s)], decide (s.length ≤ 900))
  | _ => none
theorem adGroupsS_con : ∀ vs v, cAdGroups vs = some (v, true) → SpecV Tryd.prog 27 vs v := by
  intro vs v h; unfold cAdGroups at h; split at h
  · rename_i s
    injection h with h; injection h with h hb; subst h
    exact callV_ok Eadgs_ok af_adGroupsS_ok (adGroupsS_v _ (of_decide_eq_true hb))
  · cases h
noncomputable def GEadrs : List (Nat × Con) := [(26, .val [.str, .str] cStrCut), (27, .val [.str] cAdGroups), (12, .val [.rows (.int .i64)] cAdOf)]
theorem GEadrs_ok : GOk Tryd.prog GEadrs := .cons (enters_of Tryd.func26 (by kernel_rfl) rfl) xCut_con <| .cons (enters_of Tryd.func27 (by kernel_rfl) rfl) adGroupsS_con <| .cons (enters_of Tryd.func12 (by kernel_rfl) rfl) adOf_con <| .nil
noncomputable def IEadrs : List (Nat × AF) := []
theorem IEadrs_ok : IOk Tryd.prog IEadrs := .nil
noncomputable def CEadrs : List (Nat × (List Nat × (S → Option (Bool × Tr)))) := []
theorem CEadrs_ok : COk Tryd.prog CEadrs := .nil
noncomputable def XEadrs : List (Nat × (List Sh × (List V → PT))) := []
theorem XEadrs_ok : XOk Tryd.prog XEadrs := .nil
noncomputable def Eadrs : Env := ⟨Tryd.prog, GEadrs, IEadrs, CEadrs, XEadrs⟩
theorem Eadrs_ok : EnvOk Eadrs := ⟨by kernel_rfl, GEadrs_ok, IEadrs_ok, CEadrs_ok, XEadrs_ok⟩
end Go.Proofs.YtbgfpemjdomanaaDoor
