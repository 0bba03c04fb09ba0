/- Part Gfl of the proof: laws used by the law of this claim. -/
import Derived.ArgAppend
import Derived.Test.YtpoeinajedbfoaaDoorGl
import Derived.Test.YtpoeinajedbfoaaDoorGz
import Derived.Test.YtpoeinajedbfoaaDoorGe
import Derived.Test.YtpoeinajedbfoaaDoorGsi
import Derived.Test.YtpoeinajedbfoaaDoorGad
import Derived.Test.YtpoeinajedbfoaaDoorGf
set_option linter.all false
namespace Go.Proofs.YtpoeinajedbfoaaDoor
open Go Go.Am Go.RowKit Go.Mix Go.Bas
set_option maxRecDepth 100000
/-- 'append(s, x..)' behind a slice that has no room -/
theorem exec_appF {P : Program} {o : Oper} {a : Act} {w : World} {ops : Array Oper} {rest : List Oper} {Q : Exit → Act → World → Prop} (hg : o.guard = none) (s x : Operand) (t : TypeId)
    (ho : o.op = .call { callee := .builtin .append, args := #[s, x], argTypes := #[t, t] }) (e : TypeId) (i : TypeInfo) (ht : P.underlying t = some (.slice e)) (hi : P.info? e = some i) (hz : i.zero = some (.int .u8 0)) (hsize : i.size = 1) (hby : i.bytes = 1)
    {A A2 : Option Addr} {c2 n m : Nat} (l l2 : List UInt8) (h1 : a.eval s = .slice A n n) (h2 : a.eval x = .slice A2 m c2) (hb1 : Bs w A n n l) (hl : 0 < l.length) (hbs : Bs w A2 m c2 l2) (h0 : 0 < l2.length)
    (hsz : n + m ≤ 140737488355328)
    (h : ∀ A' n' c' w', Own w' w.heap.size e A' n' c' (l ++ l2) → Below w.heap.size w w' → wpList P ops Q rest (a.put o.dst (.slice A' n' c')) w') : wpList P ops Q (o :: rest) a w := by
  obtain rfl := hb1.len
  obtain rfl := hbs.len
  have cells : ∀ {A : Option Addr} {b off : Nat} {l : List UInt8}, (∀ j, j < l.length → w.cell? ⟨b, off + j, none⟩ = some (.int .u8 (gt l j))) → ∀ j u, (l.map bv)[j]? = some u → w.cell? ((⟨b, off, none⟩ : Addr).add j) = some u := by
    intro A b off l hc j u hj
    have hlt : j < l.length := by
      rcases Nat.lt_or_ge j l.length with h | h
      · exact h
      · rw [List.getElem?_eq_none (by simpa using h)] at hj; cases hj
    rw [List.getElem?_map, List.getElem?_eq_getElem hlt] at hj
    injection hj with hj
    subst hj
    rw [add_lit0, hc j hlt, gt_of_lt hlt]
    rfl
  obtain ⟨b, off, rfl, hb2, hc⟩ := hb1.at_ hl
  obtain ⟨b', off', rfl, hb2', hc'⟩ := hbs.at_ h0
  obtain ⟨v', w', hrun, h3, h4⟩ := run_append_arg_grows (P := P) w t o.type e i (.int .u8 0) 1 1 ht hi hz hsize hby rfl (by omega) ⟨b, off, none⟩ l.length l.length (l.map bv) (by simp) (cells (A := none) hc) ⟨b', off', none⟩ l2.length c2 (l2.map bv) (by simp) (cells (A := none) hc')
    (by omega) (by unfold maxLen; omega) (by omega)
  have hform := h3.2
  rcases hform with ⟨_, e2⟩ | ⟨g, cap, cur, e1, r⟩
  · omega
  · subst e1
    refine wpList_run hg (exec_append s x t ho h1 h2 hrun) (h _ _ _ w' ⟨by simp, by rw [List.map_append]; exact h3⟩ ⟨h4.os, h4.tape, h4.output, h4.size, fun k hk => h4.block k hk (by simp)⟩)
set_option maxRecDepth 8000 in
set_option maxHeartbeats 400000 in
theorem P16F_calls (A : Option Addr) (n : Nat) (l : List UInt8) (m : Int) (w : World) (h : Bs w A n n l) (hl : 0 < l.length) (hsz : n + 2 ≤ 140737488355328) :
    Calls Tryd.prog 65 #[.slice A n n, .int .i64 m] w fun e w' => ∃ A' n' c', e = .returned (.slice A' n' c') ∧ Own w' w.heap.size 5 A' n' c' (l ++ two m) ∧ Below w.heap.size w w' := by
  obtain ⟨i0, hi, hz0, hz1, hz2⟩ := info_parts Tryd.infob
  have HH := hid h
  have HL := hid hl
  clear h hl
  go_enter Tryd.func65, Tryd.ntmps65
  go_wp2_with fail
  refine (two_calls _ _).mono ?_; rintro e w' ⟨rfl, hb'⟩
  have hsz' := hb'.size
  go_wp2_with (at_builtin; refine stop ?_)
  refine Stop.on (exec_appF rfl _ _ 61 rfl 5 i0 Tryd.underlying61 hi hz0 hz1 hz2 l (two m) rfl rfl (((HH.out.step hb').alloc _).alloc _) HL.out (Own.made_at (base := 0) _ _ (two m) _ (by simp) rfl (two_cells m) (by simp [two]) (by simp)).bs (by simp [two]) hsz ?_)
  intro A' n' c' w2 ho hq
  have hs2 : w.heap.size ≤ w2.heap.size := by have := hq.size; simp at this; omega
  have ho2 : Own w2 w.heap.size 5 A' n' c' (l ++ two m) := ho.mono (by simp; omega)
  have hb2 : Below w.heap.size w w2 := (((hb'.alloc (by omega) _).alloc (by simp; omega) _)).trans (hq.mono (by simp; omega))
  clear ho hq HH
  go_wp2
  go_ret
  exact ⟨_, _, _, rfl, ho2, hb2⟩
end Go.Proofs.YtpoeinajedbfoaaDoor

namespace Go.Proofs.YtpoeinajedbfoaaDoor
open Go Go.Am Go.RowKit Go.Mix Go.Bas
set_option maxRecDepth 100000
/-- the cells of a flow -/
def flC (s : List UInt8) (sp : Int) (d : List UInt8) (dp : Int) : List Value := s.map bv ++ (.int .i64 sp :: (d.map bv ++ [.int .i64 dp]))
/-- a flow as bytes -/
def flB (s : List UInt8) (sp : Int) (d : List UInt8) (dp : Int) : List UInt8 := s ++ two sp ++ d ++ two dp
theorem part_bs {w : World} {g off : Nat} {T : TypeId} {cs : List Value} {l : List UInt8} (h : Blk w g T cs) (hc : ∀ j, j < l.length → cs[off + j]? = some (.int .u8 (gt l j))) (hl : l.length ≤ 9223372036854775807) : Bs w (some ⟨g, off, none⟩) l.length l.length l :=
  ⟨rfl, Nat.le_refl _, hl, fun _ => ⟨g, off, rfl, h.lt, fun j hj => h.cell (hc j hj)⟩⟩
theorem flC_s {s d : List UInt8} {sp dp : Int} (j : Nat) (hj : j < s.length) : (flC s sp d dp)[0 + j]? = some (.int .u8 (gt s j)) := by
  unfold flC
  rw [Nat.zero_add, List.getElem?_append_left (by simpa using hj), List.getElem?_map, List.getElem?_eq_getElem hj, gt_of_lt hj]
  rfl
theorem flC_d {s d : List UInt8} {sp dp : Int} (hs : s.length = 16) (j : Nat) (hj : j < d.length) : (flC s sp d dp)[17 + j]? = some (.int .u8 (gt d j)) := by
  unfold flC
  rw [List.getElem?_append_right (by simp [hs]; omega), List.length_map, hs, show 17 + j - 16 = j + 1 by omega, List.getElem?_cons_succ, List.getElem?_append_left (by simpa using hj), List.getElem?_map, List.getElem?_eq_getElem hj, gt_of_lt hj]
  rfl
theorem flC_sp {s d : List UInt8} {sp dp : Int} (hs : s.length = 16) : (flC s sp d dp)[16]? = some (.int .i64 sp) := by
  unfold flC
  rw [List.getElem?_append_right (by simp [hs]), List.length_map, hs]
  rfl
theorem flC_dp {s d : List UInt8} {sp dp : Int} (hs : s.length = 16) (hd : d.length = 16) : (flC s sp d dp)[33]? = some (.int .i64 dp) := by
  unfold flC
  rw [List.getElem?_append_right (by simp [hs]), List.length_map, hs, show 33 - 16 = 16 + 1 by rfl, List.getElem?_cons_succ, List.getElem?_append_right (by simp [hd]), List.length_map, hd]
  rfl
set_option maxRecDepth 8000 in
set_option maxHeartbeats 1000000 in
theorem flBytes_calls (s : List UInt8) (sp : Int) (d : List UInt8) (dp : Int) (hs : s.length = 16) (hd : d.length = 16) (w : World) :
    Calls Tryd.prog 53 #[.agg (flC s sp d dp).toArray] w fun e w' => ∃ A n c, e = .returned (.slice A n c) ∧ Own w' w.heap.size 5 A n c (flB s sp d dp) ∧ Below w.heap.size w w' := by
  have HS := hid hs
  have HD := hid hd
  obtain ⟨i0, hi, hz0, hz1, hz2⟩ := info_parts Tryd.infob
  have hal : Tryd.prog.arrayLen 38 = 16 := by kernel_rfl
  clear hs hd
  go_enter Tryd.func53, Tryd.ntmps53
  go_wp2_with fail
  refine wp_name ?_; intro w1 hw1
  have hb1 : Blk w1 w.heap.size 40 (flC s sp d dp) := by rw [hw1]; exact Blk.new_at _ _ _ rfl
  have hbl : Below w.heap.size w w1 := by rw [hw1]; exact (Below.refl _ _).alloc (Nat.le_refl _) _
  have hbs1 : Bs w1 (some ⟨w.heap.size, 0, none⟩) 16 16 s := by have := part_bs (off := 0) (l := s) hb1 flC_s (by rw [HS.out]; omega); rwa [HS.out] at this
  have hbd1 : Bs w1 (some ⟨w.heap.size, 17, none⟩) 16 16 d := by have := part_bs (off := 17) (l := d) hb1 (flC_d HS.out) (by rw [HD.out]; omega); rwa [HD.out] at this
  have hlt := hb1.lt
  have hq := SB.start (w0 := w1) (Nat.le_refl _)
  have hne : Nonempty (SBW w1.heap.size w1) := Cls.ne (SB.refl (Nat.le_refl _))
  have f0 : ∀ u : SBW w1.heap.size w1, u.w.cell? ⟨w.heap.size, 16, none⟩ = some (.int .i64 sp) := fun u => u.cell (hb1.cell (j := 16) (flC_sp HS.out)) hlt
  have HB := hid hb1
  have HL := hid hbl
  have HBS := hid hbs1
  have HBD := hid hbd1
  clear hb1 hbl hbs1 hbd1 hw1
  refine wp_region_segs (fun wq => ∃ u : SBW (w1.heap.size) (w1), wq = u.w) ((0, 0) :: (1, 0) :: (2, 0) :: (3, 0) :: (4, 1) :: (5, 0) :: []) (by kernel_rfl) (by kernel_rfl) (by kernel_rfl) (by kernel_rfl) (inC hq) ?_
  refine seg_held _ rfl ?_; go_big_quiet_step (fail); refine wpQuiet_nil ?_ -- 0 fieldAddr
  refine seg_held _ rfl ?_; go_big_quiet_step (fail); refine wpQuiet_nil ?_ -- 1 slice
  refine seg_held _ rfl ?_; go_big_quiet_step (fail); refine wpQuiet_nil ?_ -- 2 fieldAddr
  refine seg_held _ rfl ?_; go_big_quiet_step (fail); refine wpQuiet_nil ?_ -- 3 load
  refine seg_loud _ rfl rfl ?_; intro K hK -- 4 call harrier/octets.Put16
  go_wp2_with fail
  refine (P16F_calls _ 16 s sp _ (HBS.out.step hq.1) (by rw [HS.out]; omega) (by omega)).mono ?_
  rintro e w2 ⟨A2, n2, c2, rfl, ho2, hb2⟩
  have hq2 := hq.step hb2
  go_wp2_with fail
  refine ⟨fun wq => ∃ u : SBW (w2).heap.size w2, wq = u.w, subC (fun _ h => (hq2).sub (hq2).2 h), inC (SB.refl (Nat.le_refl _)), ?_⟩
  clear hne
  have hne : Nonempty (SBW (w2).heap.size w2) := Cls.ne (SB.refl (Nat.le_refl _))
  clear f0 hq
  refine seg_held _ rfl ?_; go_big_quiet_step (fail); refine wpQuiet_nil ?_ -- 5 assign
  refine seg_nil ?_
  have hs2 := hq2.2
  have h12 : w1.heap.size ≤ w2.heap.size := hq2.1.size
  have hbB : Blk w2 w.heap.size 40 (flC s sp d dp) := HB.out.below hlt hq2.1
  have hbd2 : Bs w2 (some ⟨w.heap.size, 17, none⟩) 16 16 d := HBD.out.step hq2.1
  have hbl2 : Below w.heap.size w w2 := HL.out.trans (hq2.1.mono (by have := HL.out.size; omega))
  have ho2' : Own w2 w1.heap.size 5 A2 n2 c2 (s ++ two sp) := ho2.mono (by simp)
  have hn2 : n2 = 18 := by have := ho2.len; simpa [HS.out, two] using this
  subst hn2
  have hb2 := hbB
  have HB2 := hid hbB
  have HL2 := hid hbl2
  have HBD2 := hid hbd2
  have HO2 := hid ho2'
  have hlt2 : w.heap.size < w2.heap.size := by omega
  clear hne HB HL HBS HBD ho2 ho2' hbB hbd2 hbl2 hq2 hb2
  go_wp2_with fail
  have hq : SB w1.heap.size w2 w2.drew := SB.start h12
  have hOd : Own w2.drew w1.heap.size 5 A2 18 c2 (s ++ two sp) := HO2.out.step (Below.refl _ _).drew
  have hDd : Bs w2.drew (some ⟨w.heap.size, 17, none⟩) 16 16 d := HBD2.out.step (Below.refl _ _).drew
  have hne : Nonempty (SBW w1.heap.size w2) := Cls.ne (SB.refl h12)
  have f0 : ∀ u : SBW w1.heap.size w2, u.w.cell? ⟨w.heap.size, 33, none⟩ = some (.int .i64 dp) := fun u => u.cell (HB2.out.cell (j := 33) (flC_dp HS.out HD.out)) hlt
  have hsd : w1.heap.size ≤ w2.drew.heap.size := h12
  refine wp_region_segs (fun wq => ∃ u : SBW (w1.heap.size) (w2), wq = u.w) ((0, 0) :: (1, 0) :: (2, 0) :: (4, 0) :: (5, 0) :: (3, 1) :: (6, 1) :: (7, 0) :: []) (by kernel_rfl) (by kernel_rfl) (by kernel_rfl) (by kernel_rfl) (inC hq) ?_
  refine seg_held _ rfl ?_; go_big_quiet_step (fail); refine wpQuiet_nil ?_ -- 0 move
  refine seg_held _ rfl ?_; go_big_quiet_step (fail); refine wpQuiet_nil ?_ -- 1 fieldAddr
  refine seg_held _ rfl ?_; go_big_quiet_step (fail); refine wpQuiet_nil ?_ -- 2 slice
  refine seg_held _ rfl ?_; go_big_quiet_step (fail); refine wpQuiet_nil ?_ -- 4 fieldAddr
  refine seg_held _ rfl ?_; go_big_quiet_step (fail); refine wpQuiet_nil ?_ -- 5 load
  refine seg_loud _ rfl rfl ?_; intro K hK -- 3 builtin:append
  refine wp_app (.tmp 9) (.tmp 11) 61 rfl 5 i0 Tryd.underlying61 hi hz0 hz1 hz2 w1.heap.size _ _ rfl rfl hOd hDd (by omega) hsd (fun A3 n3 c3 w3 ho3 hg3 => hK _ _ ?_)
  have hb3 := below_grown hg3 hOd (Nat.le_refl _) hsd
  have hq3 := hq.low hb3
  have hs3 := hq3.2
  have hn3 : n3 = 34 := by have := ho3.len; simpa [HS.out, HD.out, two] using this
  subst hn3
  refine ⟨fun wq => ∃ u : SBW w1.heap.size w3, wq = u.w, subC (fun _ h => hq3.sub (Nat.le_refl _) h), inC (SB.refl hs3), ?_⟩
  clear hne f0
  have hne : Nonempty (SBW w1.heap.size w3) := Cls.ne (SB.refl hs3)
  refine seg_loud _ rfl rfl ?_; intro K hK -- 6 call harrier/octets.Put16
  go_wp2_with fail
  refine (Put16_calls w1.heap.size _ _ _ _ dp _ ho3 hs3 (by omega)).mono ?_
  rintro e w4 ⟨A4, n4, c4, rfl, ho4, hg4⟩
  have hb4 := below_grown hg4 ho3 (Nat.le_refl _) hs3
  have hq4 := hq3.low hb4
  go_wp2_with fail
  refine ⟨_, fun _ h => h, inC ((SB.refl hs3).low hb4), ?_⟩
  refine seg_held _ rfl ?_; go_big_quiet_step (fail); refine wpQuiet_nil ?_ -- 7 assign
  refine seg_nil ?_
  have hbz : Below w.heap.size w w4 := HL2.out.trans (hq4.1.mono (by have := hlt; omega))
  have hoz : Own w4 w.heap.size 5 A4 n4 c4 (flB s sp d dp) := ho4.mono (by omega)
  clear hne
  go_wp2
  go_ret
  exact ⟨_, _, _, rfl, hoz, hbz⟩
/-! ### as a contract, with the document's -/
def cFlBytes : List V → Option (V × Bool)
  | [.agg [.barr 16 s, .int .i64 sp, .barr 16 d, .int .i64 dp]] => some (.ownv 5 (.bytes (flB s sp d dp)), true)
  | _ => none
theorem flBytes_con : ∀ vs v, cFlBytes vs = some (v, true) → SpecV Tryd.prog 53 vs v := by
  intro vs v h; unfold cFlBytes at h; split at h
  · rename_i s sp d dp
    injection h with h; injection h with h hb; subst h
    intro O w cs hO hv
    obtain ⟨c, rfl, hc⟩ := hv.one_inv
    obtain ⟨ds, rfl, hd⟩ := hc.agg_inv rfl
    cases hd with
    | agg hr =>
      cases hr with
      | cons a r =>
        cases r with
        | cons b r =>
          cases r with
          | cons e r =>
            cases r with
            | cons f r =>
              cases r
              cases a with
              | barr ha =>
                cases b
                cases e with
                | barr he =>
                  cases f
                  have e1 : s.map bv ++ ([Value.int .i64 sp] ++ (d.map bv ++ ([Value.int .i64 dp] ++ []))) = flC s sp d dp := by simp [flC]
                  rw [e1]
                  exact kOwn (flBytes_calls s sp d dp ha he w)
  · cases h
end Go.Proofs.YtpoeinajedbfoaaDoor

namespace Go.Proofs.YtpoeinajedbfoaaDoor
open Go Go.Am Go.RowKit Go.Mix Go.Bas
set_option maxRecDepth 100000
theorem adT_len (a : List UInt8) : (adT a).length ≤ 82 := by
  unfold adT txF
  have h := jnF_len (wdL a)
  have e : (wdL a).length = 8 := rfl
  split
  · omega
  · have h1 := jnF_len ((wdL a).take (rwF (wdL a) 0 0 0).1.toNat)
    have h2 := jnF_len ((wdL a).drop ((rwF (wdL a) 0 0 0).1 + (rwF (wdL a) 0 0 0).2).toNat)
    have l1 : ((wdL a).take (rwF (wdL a) 0 0 0).1.toNat).length ≤ 8 := by rw [List.length_take]; omega
    have l2 : ((wdL a).drop ((rwF (wdL a) 0 0 0).1 + (rwF (wdL a) 0 0 0).2).toNat).length ≤ 8 := by rw [List.length_drop]; omega
    simp only [List.length_append, List.length_cons, List.length_nil]
    omega
/-- an end of a flow as text -/
def flE (a : List UInt8) (n : Int) : List UInt8 := [91] ++ adT a ++ [93, 58] ++ Lib.itoa n
/-- a flow as text -/
def flT (s : List UInt8) (sp : Int) (d : List UInt8) (dp : Int) : List UInt8 := flE s sp ++ [32, 62, 32] ++ flE d dp
noncomputable def af_flEnd : AF := afOf Tryd.prog Tryd.f59 []
theorem af_flEnd_ok : AllOk Tryd.prog 59 af_flEnd := .flat Tryd.func59 (by kernel_rfl) (by kernel_rfl) (by kernel_rfl) (by kernel_rfl) (by kernel_rfl)
noncomputable def GEflc0 : List (Nat × Con) := [(69, .val [.barr 16] cAdText), (38, .val [.int .i64] cItoa)]
theorem GEflc0_ok : GOk Tryd.prog GEflc0 := .cons (enters_of Tryd.func69 (by kernel_rfl) rfl) adText_con <| .cons (enters_of Tryd.func38 (by kernel_rfl) rfl) xItoa_con <| .nil
noncomputable def IEflc0 : List (Nat × AF) := []
theorem IEflc0_ok : IOk Tryd.prog IEflc0 := .nil
noncomputable def CEflc0 : List (Nat × (List Nat × (S → Option (Bool × Tr)))) := []
theorem CEflc0_ok : COk Tryd.prog CEflc0 := .nil
noncomputable def XEflc0 : List (Nat × (List Sh × (List V → PT))) := []
theorem XEflc0_ok : XOk Tryd.prog XEflc0 := .nil
noncomputable def Eflc0 : Env := ⟨Tryd.prog, GEflc0, IEflc0, CEflc0, XEflc0⟩
theorem Eflc0_ok : EnvOk Eflc0 := ⟨by kernel_rfl, GEflc0_ok, IEflc0_ok, CEflc0_ok, XEflc0_ok⟩
theorem flEnd_t (a : List UInt8) (n : Int) : callV Eflc0 af_flEnd [.barr 16 a, .int .i64 n] =
 bif
 andT
 (andT
 (andT (andT true (((1 : Nat) + (adT a).length).ble (9223372036854775807 : Nat)))
 ((([(91 : UInt8)] ++ adT a).length + (2 : Nat)).ble (9223372036854775807 : Nat)))
 (decide ((-9223372036854775808 : Int) ≤ n ∧ n ≤ (9223372036854775807 : Int))))
 ((([(91 : UInt8)] ++ adT a ++ [(93 : UInt8), (58 : UInt8)]).length + (Lib.itoa n).length).ble
 (9223372036854775807 : Nat)) then
 some (V.str ([(91 : UInt8)] ++ adT a ++ [(93 : UInt8), (58 : UInt8)] ++ Lib.itoa n))
 else none := by kernel_rfl

theorem flEnd_v (a : List UInt8) (n : Int) (h0 : -9223372036854775808 ≤ n) (h1 : n ≤ 9223372036854775807) : callV Eflc0 af_flEnd [.barr 16 a, .int .i64 n] = some (.str (flE a n)) := by
  have l1 := itoa_len h0 h1
  have l2 := adT_len a
  rw [flEnd_t]
  simp only [List.length_append, List.length_cons, List.length_nil]
  simp (disch := omega) only [dec_t, dec_f, inB_t, inC_t, andT_t, cond_true, cond_false, Bool.and_true, Bool.true_and, w64, wu32, wu8, nble_t, nblt_t, Bool.not_true, Bool.not_false, Bool.not_not, ieq_t, ieq_f, ine_t, ine_f, true_and, and_true, andT_l]
  rfl
def cFlEnd : List V → Option (V × Bool)
  | [.barr 16 a, .int .i64 n] => some (.str (flE a n), decide (-9223372036854775808 ≤ n ∧ n ≤ 9223372036854775807))
  | _ => none
theorem flEnd_con : ∀ vs v, cFlEnd vs = some (v, true) → SpecV Tryd.prog 59 vs v := by
  intro vs v h; unfold cFlEnd at h; split at h
  · rename_i a n
    injection h with h; injection h with h hb; subst h
    exact callV_ok Eflc0_ok af_flEnd_ok ((by obtain ⟨h0, h1⟩ := of_decide_eq_true hb; exact flEnd_v _ _ h0 h1))
  · cases h
theorem flE_len {a : List UInt8} {n : Int} (h0 : -9223372036854775808 ≤ n) (h1 : n ≤ 9223372036854775807) : (flE a n).length ≤ 106 := by
  have l1 := itoa_len h0 h1
  have l2 := adT_len a
  unfold flE
  simp only [List.length_append, List.length_cons, List.length_nil]
  omega
noncomputable def af_flText : AF := afOf Tryd.prog Tryd.f44 []
theorem af_flText_ok : AllOk Tryd.prog 44 af_flText := .flat Tryd.func44 (by kernel_rfl) (by kernel_rfl) (by kernel_rfl) (by kernel_rfl) (by kernel_rfl)
noncomputable def GEflc1 : List (Nat × Con) := [(59, .val [.barr 16, .int .i64] cFlEnd)]

theorem GEflc1_ok : GOk Tryd.prog GEflc1 := .cons (enters_of Tryd.func59 (by kernel_rfl) rfl) flEnd_con <| .nil

noncomputable def IEflc1 : List (Nat × AF) := []
theorem IEflc1_ok : IOk Tryd.prog IEflc1 := .nil
noncomputable def CEflc1 : List (Nat × (List Nat × (S → Option (Bool × Tr)))) := []
theorem CEflc1_ok : COk Tryd.prog CEflc1 := .nil
noncomputable def XEflc1 : List (Nat × (List Sh × (List V → PT))) := []
theorem XEflc1_ok : XOk Tryd.prog XEflc1 := .nil
noncomputable def Eflc1 : Env := ⟨Tryd.prog, GEflc1, IEflc1, CEflc1, XEflc1⟩
theorem Eflc1_ok : EnvOk Eflc1 := ⟨by kernel_rfl, GEflc1_ok, IEflc1_ok, CEflc1_ok, XEflc1_ok⟩
theorem flText_t (s d : List UInt8) (sp dp : Int) : callV Eflc1 af_flText [.agg [.barr 16 s, .int .i64 sp, .barr 16 d, .int .i64 dp]] =
 bif
 andT
 (andT
 (andT (andT true (decide ((-9223372036854775808 : Int) ≤ sp ∧ sp ≤ (9223372036854775807 : Int))))
 (((flE s sp).length + (3 : Nat)).ble (9223372036854775807 : Nat)))
 (decide ((-9223372036854775808 : Int) ≤ dp ∧ dp ≤ (9223372036854775807 : Int))))
 (((flE s sp ++ [(32 : UInt8), (62 : UInt8), (32 : UInt8)]).length + (flE d dp).length).ble
 (9223372036854775807 : Nat)) &&
 true then
 some (V.str (flE s sp ++ [(32 : UInt8), (62 : UInt8), (32 : UInt8)] ++ flE d dp))
 else none := by kernel_rfl

theorem flText_v (s d : List UInt8) (sp dp : Int) (h0 : -9223372036854775808 ≤ sp) (h1 : sp ≤ 9223372036854775807) (h2 : -9223372036854775808 ≤ dp) (h3 : dp ≤ 9223372036854775807) : callV Eflc1 af_flText [.agg [.barr 16 s, .int .i64 sp, .barr 16 d, .int .i64 dp]] = some (.str (flT s sp d dp)) := by
  have l1 := flE_len (a := s) h0 h1
  have l2 := flE_len (a := d) h2 h3
  rw [flText_t]
  simp only [List.length_append, List.length_cons, List.length_nil]
  simp (disch := omega) only [dec_t, dec_f, inB_t, inC_t, andT_t, cond_true, cond_false, Bool.and_true, Bool.true_and, w64, wu32, wu8, nble_t, nblt_t, Bool.not_true, Bool.not_false, Bool.not_not, ieq_t, ieq_f, ine_t, ine_f, true_and, and_true, andT_l]
  rfl
def cFlText : List V → Option (V × Bool)
  | [.agg [.barr 16 s, .int .i64 sp, .barr 16 d, .int .i64 dp]] => some (.str (flT s sp d dp), decide ((-9223372036854775808 ≤ sp ∧ sp ≤ 9223372036854775807) ∧ -9223372036854775808 ≤ dp ∧ dp ≤ 9223372036854775807))
  | _ => none
theorem flText_con : ∀ vs v, cFlText vs = some (v, true) → SpecV Tryd.prog 44 vs v := by
  intro vs v h; unfold cFlText at h; split at h
  · rename_i s sp d dp
    injection h with h; injection h with h hb; subst h
    exact callV_ok Eflc1_ok af_flText_ok ((by obtain ⟨⟨a, b⟩, c, d⟩ := of_decide_eq_true hb; exact flText_v _ _ _ _ a b c d))
  · cases h
/-! ### the other way; may it be; which comes ahead -/
noncomputable def af_flBack : AF := afOf Tryd.prog Tryd.f51 []
theorem af_flBack_ok : AllOk Tryd.prog 51 af_flBack := .flat Tryd.func51 (by kernel_rfl) (by kernel_rfl) (by kernel_rfl) (by kernel_rfl) (by kernel_rfl)
noncomputable def af_flRight : AF := afOf Tryd.prog Tryd.f52 []
theorem af_flRight_ok : AllOk Tryd.prog 52 af_flRight := .flat Tryd.func52 (by kernel_rfl) (by kernel_rfl) (by kernel_rfl) (by kernel_rfl) (by kernel_rfl)
noncomputable def af_flPort : AF := afOf Tryd.prog Tryd.f64 []
theorem af_flPort_ok : AllOk Tryd.prog 64 af_flPort := .flat Tryd.func64 (by kernel_rfl) (by kernel_rfl) (by kernel_rfl) (by kernel_rfl) (by kernel_rfl)
noncomputable def af_flLess : AF := afOf Tryd.prog Tryd.f28 []
theorem af_flLess_ok : AllOk Tryd.prog 28 af_flLess := .flat Tryd.func28 (by kernel_rfl) (by kernel_rfl) (by kernel_rfl) (by kernel_rfl) (by kernel_rfl)
noncomputable def af_rFlLess : AF := afOf Tryd.prog Tryd.f29 []
theorem af_rFlLess_ok : AllOk Tryd.prog 29 af_rFlLess := .flat Tryd.func29 (by kernel_rfl) (by kernel_rfl) (by kernel_rfl) (by kernel_rfl) (by kernel_rfl)
noncomputable def GEflc2 : List (Nat × Con) := [(55, .val [.barr 16, .barr 16] cAdLess), (56, .val [.barr 16, .barr 16] cAdLess)]
theorem GEflc2_ok : GOk Tryd.prog GEflc2 := .cons (enters_of Tryd.func55 (by kernel_rfl) rfl) adLess_con <| .cons (enters_of Tryd.func56 (by kernel_rfl) rfl) rAdLess_con <| .nil
noncomputable def IEflc2 : List (Nat × AF) := []
theorem IEflc2_ok : IOk Tryd.prog IEflc2 := .nil
noncomputable def CEflc2 : List (Nat × (List Nat × (S → Option (Bool × Tr)))) := []
theorem CEflc2_ok : COk Tryd.prog CEflc2 := .nil
noncomputable def XEflc2 : List (Nat × (List Sh × (List V → PT))) := []
theorem XEflc2_ok : XOk Tryd.prog XEflc2 := .nil
noncomputable def Eflc2 : Env := ⟨Tryd.prog, GEflc2, IEflc2, CEflc2, XEflc2⟩
theorem Eflc2_ok : EnvOk Eflc2 := ⟨by kernel_rfl, GEflc2_ok, IEflc2_ok, CEflc2_ok, XEflc2_ok⟩
theorem flBack_t (s d : List UInt8) (sp dp : Int) : callV Eflc2 af_flBack [.agg [.barr 16 s, .int .i64 sp, .barr 16 d, .int .i64 dp]] =
 some (V.agg [V.barr (16 : Nat) d, V.int IntKind.i64 dp, V.barr (16 : Nat) s, V.int IntKind.i64 sp]) := by kernel_rfl

theorem flPort_t (n : Int) : callV Eflc2 af_flPort [.int .i64 n] =
 bif decide (n ≥ (0 : Int)) then some (V.bool (decide (n ≤ (65535 : Int)))) else some (V.bool false) := by kernel_rfl

theorem flLess_t (s d : List UInt8) (sp dp : Int) (s' d' : List UInt8) (sp' dp' : Int) : callV Eflc2 af_flLess [.agg [.barr 16 s, .int .i64 sp, .barr 16 d, .int .i64 dp], .agg [.barr 16 s', .int .i64 sp', .barr 16 d', .int .i64 dp']] =
 bif !s == s' then
 bif andT true (decide (s.length = (16 : Nat) ∧ s'.length = (16 : Nat))) then some (V.bool (lessL s s')) else none
 else
 bif sp != sp' then some (V.bool (decide (sp < sp')))
 else
 bif !d == d' then
 bif andT true (decide (d.length = (16 : Nat) ∧ d'.length = (16 : Nat))) then some (V.bool (lessL d d'))
 else none
 else some (V.bool (decide (dp < dp'))) := by kernel_rfl

theorem rFlLess_t (s d : List UInt8) (sp dp : Int) (s' d' : List UInt8) (sp' dp' : Int) : callV Eflc2 af_rFlLess [.agg [.barr 16 s, .int .i64 sp, .barr 16 d, .int .i64 dp], .agg [.barr 16 s', .int .i64 sp', .barr 16 d', .int .i64 dp']] =
 bif !s == s' then
 bif andT true (decide (s.length = (16 : Nat) ∧ s'.length = (16 : Nat))) then some (V.bool (lessL s s')) else none
 else
 bif sp != sp' then some (V.bool (decide (sp < sp')))
 else
 bif !d == d' then
 bif andT true (decide (d.length = (16 : Nat) ∧ d'.length = (16 : Nat))) then some (V.bool (lessL d d'))
 else none
 else some (V.bool (decide (dp < dp'))) := by kernel_rfl

/-- does a flow come ahead of another one? -/
def flLs (s : List UInt8) (sp : Int) (d : List UInt8) (dp : Int) (sx : List UInt8) (spx : Int) (dx : List UInt8) (dpx : Int) : Bool := bif !(s == sx) then lessL s sx else bif sp != spx then decide (sp < spx) else bif !(d == dx) then lessL d dx else decide (dp < dpx)
def cFlLess : List V → Option (V × Bool)
  | [.agg [.barr 16 s, .int .i64 sp, .barr 16 d, .int .i64 dp], .agg [.barr 16 sx, .int .i64 spx, .barr 16 dx, .int .i64 dpx]] => some (.bool (flLs s sp d dp sx spx dx dpx), decide ((s.length = 16 ∧ sx.length = 16) ∧ d.length = 16 ∧ dx.length = 16))
  | _ => none
theorem flLess_v (s d : List UInt8) (sp dp : Int) (s' d' : List UInt8) (sp' dp' : Int) (h1 : s.length = 16) (h2 : s'.length = 16) (h3 : d.length = 16) (h4 : d'.length = 16) : callV Eflc2 af_flLess [.agg [.barr 16 s, .int .i64 sp, .barr 16 d, .int .i64 dp], .agg [.barr 16 s', .int .i64 sp', .barr 16 d', .int .i64 dp']] = some (.bool (flLs s sp d dp s' sp' d' dp')) := by
  rw [flLess_t]
  unfold flLs
  have e1 : decide (s.length = 16 ∧ s'.length = 16) = true := decide_eq_true ⟨h1, h2⟩
  have e2 : decide (d.length = 16 ∧ d'.length = 16) = true := decide_eq_true ⟨h3, h4⟩
  rw [e1, e2]
  cases (s == s') <;> cases (sp != sp') <;> cases (d == d') <;> rfl
theorem rFlLess_v (s d : List UInt8) (sp dp : Int) (s' d' : List UInt8) (sp' dp' : Int) (h1 : s.length = 16) (h2 : s'.length = 16) (h3 : d.length = 16) (h4 : d'.length = 16) : callV Eflc2 af_rFlLess [.agg [.barr 16 s, .int .i64 sp, .barr 16 d, .int .i64 dp], .agg [.barr 16 s', .int .i64 sp', .barr 16 d', .int .i64 dp']] = some (.bool (flLs s sp d dp s' sp' d' dp')) := by
  rw [rFlLess_t]
  unfold flLs
  have e1 : decide (s.length = 16 ∧ s'.length = 16) = true := decide_eq_true ⟨h1, h2⟩
  have e2 : decide (d.length = 16 ∧ d'.length = 16) = true := decide_eq_true ⟨h3, h4⟩
  rw [e1, e2]
  cases (s == s') <;> cases (sp != sp') <;> cases (d == d') <;> rfl
theorem flLess_con : ∀ vs v, cFlLess vs = some (v, true) → SpecV Tryd.prog 28 vs v := by
  intro vs v h; unfold cFlLess at h; split at h
  · rename_i s sp d dp sx spx dx dpx
    injection h with h; injection h with h hb; subst h
    exact callV_ok Eflc2_ok af_flLess_ok ((by obtain ⟨⟨a, b⟩, c, d⟩ := of_decide_eq_true hb; exact flLess_v _ _ _ _ _ _ _ _ a b c d))
  · cases h
theorem rFlLess_con : ∀ vs v, cFlLess vs = some (v, true) → SpecV Tryd.prog 29 vs v := by
  intro vs v h; unfold cFlLess at h; split at h
  · rename_i s sp d dp sx spx dx dpx
    injection h with h; injection h with h hb; subst h
    exact callV_ok Eflc2_ok af_rFlLess_ok ((by obtain ⟨⟨a, b⟩, c, d⟩ := of_decide_eq_true hb; exact rFlLess_v _ _ _ _ _ _ _ _ a b c d))
  · cases h
def cFlBack : List V → Option (V × Bool)
  | [.agg [.barr 16 s, .int .i64 sp, .barr 16 d, .int .i64 dp]] => some (.agg [.barr 16 d, .int .i64 dp, .barr 16 s, .int .i64 sp], true)
  | _ => none
theorem flBack_con : ∀ vs v, cFlBack vs = some (v, true) → SpecV Tryd.prog 51 vs v := by
  intro vs v h; unfold cFlBack at h; split at h
  · rename_i s sp d dp
    injection h with h; injection h with h hb; subst h
    exact callV_ok Eflc2_ok af_flBack_ok (flBack_t _ _ _ _)
  · cases h
def ptB (n : Int) : Bool := decide (0 ≤ n ∧ n ≤ 65535)
theorem flPort_v (n : Int) : callV Eflc2 af_flPort [.int .i64 n] = some (.bool (ptB n)) := by
  rw [flPort_t]
  unfold ptB
  by_cases h : n ≥ 0
  · by_cases h2 : n ≤ 65535
    · rw [dec_t h, dec_t h2, dec_t ⟨by omega, h2⟩]; rfl
    · rw [dec_t h, dec_f h2, dec_f (p := 0 ≤ n ∧ n ≤ 65535) (by omega)]; rfl
  · rw [dec_f h, dec_f (p := 0 ≤ n ∧ n ≤ 65535) (by omega)]; rfl
def cFlPort : List V → Option (V × Bool)
  | [.int .i64 n] => some (.bool (ptB n), true)
  | _ => none
theorem flPort_con : ∀ vs v, cFlPort vs = some (v, true) → SpecV Tryd.prog 64 vs v := by
  intro vs v h; unfold cFlPort at h; split at h
  · rename_i n
    injection h with h; injection h with h hb; subst h
    exact callV_ok Eflc2_ok af_flPort_ok (flPort_v _)
  · cases h
noncomputable def GEflc3 : List (Nat × Con) := [(64, .val [.int .i64] cFlPort)]
theorem GEflc3_ok : GOk Tryd.prog GEflc3 := .cons (enters_of Tryd.func64 (by kernel_rfl) rfl) flPort_con <| .nil
noncomputable def IEflc3 : List (Nat × AF) := []
theorem IEflc3_ok : IOk Tryd.prog IEflc3 := .nil
noncomputable def CEflc3 : List (Nat × (List Nat × (S → Option (Bool × Tr)))) := []
theorem CEflc3_ok : COk Tryd.prog CEflc3 := .nil
noncomputable def XEflc3 : List (Nat × (List Sh × (List V → PT))) := []
theorem XEflc3_ok : XOk Tryd.prog XEflc3 := .nil
noncomputable def Eflc3 : Env := ⟨Tryd.prog, GEflc3, IEflc3, CEflc3, XEflc3⟩
theorem Eflc3_ok : EnvOk Eflc3 := ⟨by kernel_rfl, GEflc3_ok, IEflc3_ok, CEflc3_ok, XEflc3_ok⟩
theorem flRight_t (s d : List UInt8) (sp dp : Int) : callV Eflc3 af_flRight [.agg [.barr 16 s, .int .i64 sp, .barr 16 d, .int .i64 dp]] =
 bif ptB sp then some (V.bool (ptB dp)) else some (V.bool false) := by kernel_rfl

theorem flRight_v (s d : List UInt8) (sp dp : Int) : callV Eflc3 af_flRight [.agg [.barr 16 s, .int .i64 sp, .barr 16 d, .int .i64 dp]] = some (.bool (ptB sp && ptB dp)) := by
  rw [flRight_t]
  cases ptB sp <;> rfl
def cFlRight : List V → Option (V × Bool)
  | [.agg [.barr 16 s, .int .i64 sp, .barr 16 d, .int .i64 dp]] => some (.bool (ptB sp && ptB dp), true)
  | _ => none
theorem flRight_con : ∀ vs v, cFlRight vs = some (v, true) → SpecV Tryd.prog 52 vs v := by
  intro vs v h; unfold cFlRight at h; split at h
  · rename_i s sp d dp
    injection h with h; injection h with h hb; subst h
    exact callV_ok Eflc3_ok af_flRight_ok (flRight_v _ _ _ _)
  · cases h
noncomputable def af_lives14 : AF := afOf Tryd.prog Tryd.f25 []
theorem af_lives14_ok : AllOk Tryd.prog 25 af_lives14 := .flat Tryd.func25 (by kernel_rfl) (by kernel_rfl) (by kernel_rfl) (by kernel_rfl) (by kernel_rfl)
noncomputable def GEflc4 : List (Nat × Con) := [(44, .val [.agg [.barr 16, .int .i64, .barr 16, .int .i64]] cFlText), (51, .val [.agg [.barr 16, .int .i64, .barr 16, .int .i64]] cFlBack), (52, .val [.agg [.barr 16, .int .i64, .barr 16, .int .i64]] cFlRight), (53, .val [.agg [.barr 16, .int .i64, .barr 16, .int .i64]] cFlBytes), (28, .val [.agg [.barr 16, .int .i64, .barr 16, .int .i64], .agg [.barr 16, .int .i64, .barr 16, .int .i64]] cFlLess)]
theorem GEflc4_ok : GOk Tryd.prog GEflc4 := .cons (enters_of Tryd.func44 (by kernel_rfl) rfl) flText_con <| .cons (enters_of Tryd.func51 (by kernel_rfl) rfl) flBack_con <| .cons (enters_of Tryd.func52 (by kernel_rfl) rfl) flRight_con <| .cons (enters_of Tryd.func53 (by kernel_rfl) rfl) flBytes_con <| .cons (enters_of Tryd.func28 (by kernel_rfl) rfl) flLess_con <| .nil
noncomputable def IEflc4 : List (Nat × AF) := []
theorem IEflc4_ok : IOk Tryd.prog IEflc4 := .nil
noncomputable def CEflc4 : List (Nat × (List Nat × (S → Option (Bool × Tr)))) := []
theorem CEflc4_ok : COk Tryd.prog CEflc4 := .nil
noncomputable def XEflc4 : List (Nat × (List Sh × (List V → PT))) := []
theorem XEflc4_ok : XOk Tryd.prog XEflc4 := .nil
noncomputable def Eflc4 : Env := ⟨Tryd.prog, GEflc4, IEflc4, CEflc4, XEflc4⟩
theorem Eflc4_ok : EnvOk Eflc4 := ⟨by kernel_rfl, GEflc4_ok, IEflc4_ok, CEflc4_ok, XEflc4_ok⟩
theorem lives14_t  : callV Eflc4 af_lives14 [] =
 some (V.bool true) := by kernel_rfl

theorem lives14_con : ∀ vs v, cTru vs = some (v, true) → SpecV Tryd.prog 25 vs v := by
  intro vs v h; unfold cTru at h; split at h
  · injection h with h; injection h with h hb; subst h
    exact callV_ok Eflc4_ok af_lives14_ok lives14_t
  · cases h
theorem lessL_anti : ∀ a b : List UInt8, a.length = b.length → a ≠ b → lessL b a = !lessL a b
  | [], [], _, h => absurd rfl h
  | [], _ :: _, h, _ => by cases h
  | _ :: _, [], h, _ => by cases h
  | x :: a, y :: b, h, hn => by
    by_cases e : x = y
    · subst e
      rw [lessL_eq, lessL_eq]
      exact lessL_anti a b (by simpa using h) (fun e => hn (by rw [e]))
    · have e' : ¬ y = x := fun e' => e e'.symm
      have hne := toNat_ne e
      simp only [lessL, if_neg e, if_neg e']
      by_cases c : (x.toNat : Int) < y.toNat
      · rw [decide_eq_true c, decide_eq_false (by omega)]; rfl
      · rw [decide_eq_false c, decide_eq_true (by omega)]; rfl
/-- of two flows one comes ahead, just if they are not the same -/
theorem flLs_anti {s d sx dx : List UInt8} {sp dp spx dpx : Int} (h1 : s.length = 16) (h2 : d.length = 16) (h3 : sx.length = 16) (h4 : dx.length = 16) (hn : ¬ (s = sx ∧ sp = spx ∧ d = dx ∧ dp = dpx)) : flLs sx spx dx dpx s sp d dp = !flLs s sp d dp sx spx dx dpx := by
  unfold flLs
  by_cases c1 : s = sx
  · subst c1
    rw [beq_self_eq_true]
    by_cases c2 : sp = spx
    · subst c2
      by_cases c3 : d = dx
      · subst c3
        rw [beq_self_eq_true]
        have hne : ¬ dp = dpx := fun e => hn ⟨rfl, rfl, rfl, e⟩
        simp only [Bool.not_true, cond_false, bne_self_eq_false]
        by_cases c : dp < dpx
        · rw [decide_eq_true c, decide_eq_false (by omega)]; rfl
        · rw [decide_eq_false c, decide_eq_true (by omega)]; rfl
      · have e1 : (d == dx) = false := by simpa using c3
        have e2 : (dx == d) = false := by simpa using fun e => c3 e.symm
        rw [e1, e2]
        simp only [Bool.not_true, Bool.not_false, cond_false, cond_true, bne_self_eq_false]
        exact lessL_anti d dx (by omega) c3
    · simp only [Bool.not_true, cond_false]
      rw [ine_t c2, ine_t (show spx ≠ sp from fun e => c2 e.symm)]
      simp only [cond_true]
      by_cases c : sp < spx
      · rw [decide_eq_true c, decide_eq_false (by omega)]; rfl
      · rw [decide_eq_false c, decide_eq_true (by omega)]; rfl
  · have e1 : (s == sx) = false := by simpa using c1
    have e2 : (sx == s) = false := by simpa using fun e => c1 e.symm
    rw [e1, e2]
    simp only [Bool.not_false, cond_true]
    exact lessL_anti s sx (by omega) c1
end Go.Proofs.YtpoeinajedbfoaaDoor
