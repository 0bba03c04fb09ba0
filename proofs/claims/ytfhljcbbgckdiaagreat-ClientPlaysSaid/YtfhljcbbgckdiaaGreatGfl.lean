/- Part Gfl of the proof: laws used by the law of this claim. -/
import Derived.ArgAppend
import Derived.Test.YtfhljcbbgckdiaaGreatGl
import Derived.Test.YtfhljcbbgckdiaaGreatGz
import Derived.Test.YtfhljcbbgckdiaaGreatGe
import Derived.Test.YtfhljcbbgckdiaaGreatGsi
set_option linter.all false
namespace Go.Proofs.YtfhljcbbgckdiaaGreat
open Go Go.Am Go.RowKit Go.Mix Go.Bas
set_option maxRecDepth 100000
theorem exec_appF {P : Program} {o : Oper} {a : Act} {w : World} {ops : Array Oper} {rest : List Oper} {Q : Exit → Act → World → Prop} (hg : o.guard = none) (s x : Operand) (t : TypeId)
  (ho : o.op = .call { callee := .builtin .append, args := #[s, x], argTypes := #[t, t] }) (e : TypeId) (i : TypeInfo) (ht : P.underlying t = some (.slice e)) (hi : P.info? e = some i) (hz : i.zero = some (.int .u8 0)) (hsize : i.size = 1) (hby : i.bytes = 1)
  {A A2 : Option Addr} {c2 n m : Nat} (l l2 : List UInt8) (h1 : a.eval s = .slice A n n) (h2 : a.eval x = .slice A2 m c2) (hb1 : Bs w A n n l) (hl : 0 < l.length) (hbs : Bs w A2 m c2 l2) (h0 : 0 < l2.length)
  (hsz : n + m ≤ 140737488355328)
  (h : ∀ A' n' c' w', Own w' w.heap.size e A' n' c' (l ++ l2) → Below w.heap.size w w' → wpList P ops Q rest (a.put o.dst (.slice A' n' c')) w') : wpList P ops Q (o :: rest) a w := by
 obtain rfl := hb1.len
 obtain rfl := hbs.len
 have cells : ∀ {A : Option Addr} {b off : Nat} {l : List UInt8}, (∀ j, j < l.length → w.cell? ⟨b, off + j, none⟩ = some (.int .u8 (gt l j))) → ∀ j u, (l.map bv)[j]? = some u → w.cell? ((⟨b, off, none⟩ : Addr).add j) = some u := by
  intro A b off l hc j u hj
  have hlt : j < l.length := by
   rcases Nat.lt_or_ge j l.length with h | h
   ·exact h
   ·rw [List.getElem?_eq_none (by simpa using h)] at hj; cases hj
  rw [List.getElem?_map, List.getElem?_eq_getElem hlt] at hj
  injection hj with hj
  subst hj
  rw [add_lit0, hc j hlt, gt_of_lt hlt]
  rfl
 obtain ⟨b, off, rfl, hb2, hc⟩ := hb1.at_ hl
 obtain ⟨b', off', rfl, hb2', hc'⟩ := hbs.at_ h0
 obtain ⟨v', w', hrun, h3, h4⟩ := run_append_arg_grows (P := P) w t o.type e i (.int .u8 0) 1 1 ht hi hz hsize hby rfl (by omega) ⟨b, off, none⟩ l.length l.length (l.map bv) (by simp) (cells (A := none) hc) ⟨b', off', none⟩ l2.length c2 (l2.map bv) (by simp) (cells (A := none) hc')
  (by omega) (by unfold maxLen; omega) (by omega)
 have hform := h3.2
 rcases hform with ⟨_, e2⟩ | ⟨g, cap, cur, e1, r⟩
 ·omega
 ·subst e1
  refine wpList_run hg (exec_append s x t ho h1 h2 hrun) (h _ _ _ w' ⟨by simp, by rw [List.map_append]; exact h3⟩ ⟨h4.os, h4.tape, h4.output, h4.size, fun k hk => h4.block k hk (by simp)⟩)
set_option maxRecDepth 8000 in
set_option maxHeartbeats 400000 in
theorem P16F_calls (A : Option Addr) (n : Nat) (l : List UInt8) (m : Int) (w : World) (h : Bs w A n n l) (hl : 0 < l.length) (hsz : n + 2 ≤ 140737488355328) :
  Calls Tryz.prog 78 #[.slice A n n, .int .i64 m] w fun e w' => ∃ A' n' c', e = .returned (.slice A' n' c') ∧ Own w' w.heap.size 5 A' n' c' (l ++ two m) ∧ Below w.heap.size w w' := by
 obtain ⟨i0, hi, hz0, hz1, hz2⟩ := info_parts Tryz.infob
 have HH := hid h
 have HL := hid hl
 clear h hl
 go_enter Tryz.func78, Tryz.ntmps78
 go_wp2_with fail
 refine (two_calls _ _).mono ?_; rintro e w' ⟨rfl, hb'⟩
 have hsz' := hb'.size
 go_wp2_with (at_builtin; refine stop ?_)
 refine Stop.on (exec_appF rfl _ _ 34 rfl 5 i0 Tryz.underlying34 hi hz0 hz1 hz2 l (two m) rfl rfl (((HH.out.step hb').alloc _).alloc _) HL.out (Own.made_at (base := 0) _ _ (two m) _ (by simp) rfl (two_cells m) (by simp [two]) (by simp)).bs (by simp [two]) hsz ?_)
 intro A' n' c' w2 ho hq
 have hs2 : w.heap.size ≤ w2.heap.size := by have := hq.size; simp at this; omega
 have ho2 : Own w2 w.heap.size 5 A' n' c' (l ++ two m) := ho.mono (by simp; omega)
 have hb2 : Below w.heap.size w w2 := (((hb'.alloc (by omega) _).alloc (by simp; omega) _)).trans (hq.mono (by simp; omega))
 clear ho hq HH
 go_wp2
 go_ret
 exact ⟨_, _, _, rfl, ho2, hb2⟩
def flC (s : List UInt8) (sp : Int) (d : List UInt8) (dp : Int) : List Value := s.map bv ++ (.int .i64 sp :: (d.map bv ++ [.int .i64 dp]))
def flB (s : List UInt8) (sp : Int) (d : List UInt8) (dp : Int) : List UInt8 := s ++ two sp ++ d ++ two dp
theorem part_bs {w : World} {g off : Nat} {T : TypeId} {cs : List Value} {l : List UInt8} (h : Blk w g T cs) (hc : ∀ j, j < l.length → cs[off + j]? = some (.int .u8 (gt l j))) (hl : l.length ≤ 9223372036854775807) : Bs w (some ⟨g, off, none⟩) l.length l.length l :=
 ⟨rfl, Nat.le_refl _, hl, fun _ => ⟨g, off, rfl, h.lt, fun j hj => h.cell (hc j hj)⟩⟩
theorem flC_s {s d : List UInt8} {sp dp : Int} (j : Nat) (hj : j < s.length) : (flC s sp d dp)[0 + j]? = some (.int .u8 (gt s j)) := by
 unfold flC
 rw [Nat.zero_add, List.getElem?_append_left (by simpa using hj), List.getElem?_map, List.getElem?_eq_getElem hj, gt_of_lt hj]
 rfl
theorem flC_d {s d : List UInt8} {sp dp : Int} (hs : s.length = 16) (j : Nat) (hj : j < d.length) : (flC s sp d dp)[17 + j]? = some (.int .u8 (gt d j)) := by
 unfold flC
 rw [List.getElem?_append_right (by simp [hs]; omega), List.length_map, hs, show 17 + j - 16 = j + 1 by omega, List.getElem?_cons_succ, List.getElem?_append_left (by simpa using hj), List.getElem?_map, List.getElem?_eq_getElem hj, gt_of_lt hj]
 rfl
theorem flC_sp {s d : List UInt8} {sp dp : Int} (hs : s.length = 16) : (flC s sp d dp)[16]? = some (.int .i64 sp) := by
 unfold flC
 rw [List.getElem?_append_right (by simp [hs]), List.length_map, hs]
 rfl
theorem flC_dp {s d : List UInt8} {sp dp : Int} (hs : s.length = 16) (hd : d.length = 16) : (flC s sp d dp)[33]? = some (.int .i64 dp) := by
 unfold flC
 rw [List.getElem?_append_right (by simp [hs]), List.length_map, hs, show 33 - 16 = 16 + 1 by rfl, List.getElem?_cons_succ, List.getElem?_append_right (by simp [hd]), List.length_map, hd]
 rfl
set_option maxRecDepth 8000 in
set_option maxHeartbeats 1000000 in
theorem flBytes_calls (s : List UInt8) (sp : Int) (d : List UInt8) (dp : Int) (hs : s.length = 16) (hd : d.length = 16) (w : World) :
  Calls Tryz.prog 48 #[.agg (flC s sp d dp).toArray] w fun e w' => ∃ A n c, e = .returned (.slice A n c) ∧ Own w' w.heap.size 5 A n c (flB s sp d dp) ∧ Below w.heap.size w w' := by
 have HS := hid hs
 have HD := hid hd
 obtain ⟨i0, hi, hz0, hz1, hz2⟩ := info_parts Tryz.infob
 have hal : Tryz.prog.arrayLen 23 = 16 := by kernel_rfl
 clear hs hd
 go_enter Tryz.func48, Tryz.ntmps48
 go_wp2_with fail
 refine wp_name ?_; intro w1 hw1
 have hb1 : Blk w1 w.heap.size 36 (flC s sp d dp) := by rw [hw1]; exact Blk.new_at _ _ _ rfl
 have hbl : Below w.heap.size w w1 := by rw [hw1]; exact (Below.refl _ _).alloc (Nat.le_refl _) _
 have hbs1 : Bs w1 (some ⟨w.heap.size, 0, none⟩) 16 16 s := by have := part_bs (off := 0) (l := s) hb1 flC_s (by rw [HS.out]; omega); rwa [HS.out] at this
 have hbd1 : Bs w1 (some ⟨w.heap.size, 17, none⟩) 16 16 d := by have := part_bs (off := 17) (l := d) hb1 (flC_d HS.out) (by rw [HD.out]; omega); rwa [HD.out] at this
 have hlt := hb1.lt
 have hq := SB.start (w0 := w1) (Nat.le_refl _)
 have hne : Nonempty (SBW w1.heap.size w1) := Cls.ne (SB.refl (Nat.le_refl _))
 have f0 : ∀ u : SBW w1.heap.size w1, u.w.cell? ⟨w.heap.size, 16, none⟩ = some (.int .i64 sp) := fun u => u.cell (hb1.cell (j := 16) (flC_sp HS.out)) hlt
 have HB := hid hb1
 have HL := hid hbl
 have HBS := hid hbs1
 have HBD := hid hbd1
 clear hb1 hbl hbs1 hbd1 hw1
 refine wp_region_segs (fun wq => ∃ u : SBW (w1.heap.size) (w1), wq = u.w) ((0, 0) :: (1, 0) :: (2, 0) :: (3, 0) :: (4, 1) :: (5, 0) :: []) (by kernel_rfl) (by kernel_rfl) (by kernel_rfl) (by kernel_rfl) (inC hq) ?_
 refine seg_held _ rfl ?_; go_big_quiet_step (fail); refine wpQuiet_nil ?_ -- 0 fieldAddr
 refine seg_held _ rfl ?_; go_big_quiet_step (fail); refine wpQuiet_nil ?_ -- 1 slice
 refine seg_held _ rfl ?_; go_big_quiet_step (fail); refine wpQuiet_nil ?_ -- 2 fieldAddr
 refine seg_held _ rfl ?_; go_big_quiet_step (fail); refine wpQuiet_nil ?_ -- 3 load
 refine seg_loud _ rfl rfl ?_; intro K hK -- 4 call harrier/octets.Put16
 go_wp2_with fail
 refine (P16F_calls _ 16 s sp _ (HBS.out.step hq.1) (by rw [HS.out]; omega) (by omega)).mono ?_
 rintro e w2 ⟨A2, n2, c2, rfl, ho2, hb2⟩
 have hq2 := hq.step hb2
 go_wp2_with fail
 refine ⟨fun wq => ∃ u : SBW (w2).heap.size w2, wq = u.w, subC (fun _ h => (hq2).sub (hq2).2 h), inC (SB.refl (Nat.le_refl _)), ?_⟩
 clear hne
 have hne : Nonempty (SBW (w2).heap.size w2) := Cls.ne (SB.refl (Nat.le_refl _))
 clear f0 hq
 refine seg_held _ rfl ?_; go_big_quiet_step (fail); refine wpQuiet_nil ?_ -- 5 assign
 refine seg_nil ?_
 have hs2 := hq2.2
 have h12 : w1.heap.size ≤ w2.heap.size := hq2.1.size
 have hbB : Blk w2 w.heap.size 36 (flC s sp d dp) := HB.out.below hlt hq2.1
 have hbd2 : Bs w2 (some ⟨w.heap.size, 17, none⟩) 16 16 d := HBD.out.step hq2.1
 have hbl2 : Below w.heap.size w w2 := HL.out.trans (hq2.1.mono (by have := HL.out.size; omega))
 have ho2' : Own w2 w1.heap.size 5 A2 n2 c2 (s ++ two sp) := ho2.mono (by simp)
 have hn2 : n2 = 18 := by have := ho2.len; simpa [HS.out, two] using this
 subst hn2
 have hb2 := hbB
 have HB2 := hid hbB
 have HL2 := hid hbl2
 have HBD2 := hid hbd2
 have HO2 := hid ho2'
 have hlt2 : w.heap.size < w2.heap.size := by omega
 clear hne HB HL HBS HBD ho2 ho2' hbB hbd2 hbl2 hq2 hb2
 go_wp2_with fail
 have hq : SB w1.heap.size w2 w2.drew := SB.start h12
 have hOd : Own w2.drew w1.heap.size 5 A2 18 c2 (s ++ two sp) := HO2.out.step (Below.refl _ _).drew
 have hDd : Bs w2.drew (some ⟨w.heap.size, 17, none⟩) 16 16 d := HBD2.out.step (Below.refl _ _).drew
 have hne : Nonempty (SBW w1.heap.size w2) := Cls.ne (SB.refl h12)
 have f0 : ∀ u : SBW w1.heap.size w2, u.w.cell? ⟨w.heap.size, 33, none⟩ = some (.int .i64 dp) := fun u => u.cell (HB2.out.cell (j := 33) (flC_dp HS.out HD.out)) hlt
 have hsd : w1.heap.size ≤ w2.drew.heap.size := h12
 refine wp_region_segs (fun wq => ∃ u : SBW (w1.heap.size) (w2), wq = u.w) ((0, 0) :: (1, 0) :: (2, 0) :: (4, 0) :: (5, 0) :: (3, 1) :: (6, 1) :: (7, 0) :: []) (by kernel_rfl) (by kernel_rfl) (by kernel_rfl) (by kernel_rfl) (inC hq) ?_
 refine seg_held _ rfl ?_; go_big_quiet_step (fail); refine wpQuiet_nil ?_ -- 0 move
 refine seg_held _ rfl ?_; go_big_quiet_step (fail); refine wpQuiet_nil ?_ -- 1 fieldAddr
 refine seg_held _ rfl ?_; go_big_quiet_step (fail); refine wpQuiet_nil ?_ -- 2 slice
 refine seg_held _ rfl ?_; go_big_quiet_step (fail); refine wpQuiet_nil ?_ -- 4 fieldAddr
 refine seg_held _ rfl ?_; go_big_quiet_step (fail); refine wpQuiet_nil ?_ -- 5 load
 refine seg_loud _ rfl rfl ?_; intro K hK -- 3 builtin:append
 refine wp_app (.tmp 9) (.tmp 11) 34 rfl 5 i0 Tryz.underlying34 hi hz0 hz1 hz2 w1.heap.size _ _ rfl rfl hOd hDd (by omega) hsd (fun A3 n3 c3 w3 ho3 hg3 => hK _ _ ?_)
 have hb3 := below_grown hg3 hOd (Nat.le_refl _) hsd
 have hq3 := hq.low hb3
 have hs3 := hq3.2
 have hn3 : n3 = 34 := by have := ho3.len; simpa [HS.out, HD.out, two] using this
 subst hn3
 refine ⟨fun wq => ∃ u : SBW w1.heap.size w3, wq = u.w, subC (fun _ h => hq3.sub (Nat.le_refl _) h), inC (SB.refl hs3), ?_⟩
 clear hne f0
 have hne : Nonempty (SBW w1.heap.size w3) := Cls.ne (SB.refl hs3)
 refine seg_loud _ rfl rfl ?_; intro K hK -- 6 call harrier/octets.Put16
 go_wp2_with fail
 refine (Put16_calls w1.heap.size _ _ _ _ dp _ ho3 hs3 (by omega)).mono ?_
 rintro e w4 ⟨A4, n4, c4, rfl, ho4, hg4⟩
 have hb4 := below_grown hg4 ho3 (Nat.le_refl _) hs3
 have hq4 := hq3.low hb4
 go_wp2_with fail
 refine ⟨_, fun _ h => h, inC ((SB.refl hs3).low hb4), ?_⟩
 refine seg_held _ rfl ?_; go_big_quiet_step (fail); refine wpQuiet_nil ?_ -- 7 assign
 refine seg_nil ?_
 have hbz : Below w.heap.size w w4 := HL2.out.trans (hq4.1.mono (by have := hlt; omega))
 have hoz : Own w4 w.heap.size 5 A4 n4 c4 (flB s sp d dp) := ho4.mono (by omega)
 clear hne
 go_wp2
 go_ret
 exact ⟨_, _, _, rfl, hoz, hbz⟩
def cFlBytes : List V → Option (V × Bool)
 | [.agg [.barr 16 s, .int .i64 sp, .barr 16 d, .int .i64 dp]] => some (.ownv 5 (.bytes (flB s sp d dp)), true)
 | _ => none
theorem flBytes_con : ∀ vs v, cFlBytes vs = some (v, true) → SpecV Tryz.prog 48 vs v := by
 intro vs v h; unfold cFlBytes at h; split at h
 ·rename_i s sp d dp
  injection h with h; injection h with h hb; subst h
  intro O w cs hO hv
  obtain ⟨c, rfl, hc⟩ := hv.one_inv
  obtain ⟨ds, rfl, hd⟩ := hc.agg_inv rfl
  cases hd with
  | agg hr =>
   cases hr with
   | cons a r =>
    cases r with
    | cons b r =>
     cases r with
     | cons e r =>
      cases r with
      | cons f r =>
       cases r
       cases a with
       | barr ha =>
        cases b
        cases e with
        | barr he =>
         cases f
         have e1 : s.map bv ++ ([Value.int .i64 sp] ++ (d.map bv ++ ([Value.int .i64 dp] ++ []))) = flC s sp d dp := by simp [flC]
         rw [e1]
         exact kOwn (flBytes_calls s sp d dp ha he w)
 ·cases h
noncomputable def af_rFlBytes : AF := afOf Tryz.prog Tryz.f88 [.unr 17, .unr 17]
theorem af_rFlBytes_ok : AllOk Tryz.prog 88 af_rFlBytes := .flat Tryz.func88 (by kernel_rfl) (by kernel_rfl) (by kernel_rfl) (by kernel_rfl) (by kernel_rfl)
noncomputable def GEflb : List (Nat × Con) := [(83, .val [.int .i64] cTwo)]
theorem GEflb_ok : GOk Tryz.prog GEflb := .cons (enters_of Tryz.func83 (by kernel_rfl) rfl) Two_con <| .nil
noncomputable def IEflb : List (Nat × AF) := []
theorem IEflb_ok : IOk Tryz.prog IEflb := .nil
noncomputable def CEflb : List (Nat × (List Nat × (S → Option (Bool × Tr)))) := []
theorem CEflb_ok : COk Tryz.prog CEflb := .nil
noncomputable def XEflb : List (Nat × (List Sh × (List V → PT))) := []
theorem XEflb_ok : XOk Tryz.prog XEflb := .nil
noncomputable def Eflb : Env := ⟨Tryz.prog, GEflb, IEflb, CEflb, XEflb, false⟩
theorem Eflb_ok : EnvOk Eflb := ⟨by kernel_rfl, GEflb_ok, IEflb_ok, CEflb_ok, XEflb_ok⟩
theorem rFlBytes_t (s d : List UInt8) (sp dp : Int) : callV Eflb af_rFlBytes [.agg [.barr 16 s, .int .i64 sp, .barr 16 d, .int .i64 dp]] =
 some
 (V.ownv (5 : Nat)
 (V.bytes
 (u8 (gt s (0 : Nat)) :: List.replicate (nat_lit 0) (0 : UInt8) ++
 u8 (gt s (1 : Nat)) ::
 List.replicate (nat_lit 0) (0 : UInt8) ++
 u8 (gt s (2 : Nat)) ::
 List.replicate (nat_lit 0) (0 : UInt8) ++
 u8 (gt s (3 : Nat)) ::
 List.replicate (nat_lit 0) (0 : UInt8) ++
 u8 (gt s (4 : Nat)) ::
 List.replicate (nat_lit 0) (0 : UInt8) ++
 u8 (gt s (5 : Nat)) ::
 List.replicate (nat_lit 0) (0 : UInt8) ++
 u8 (gt s (6 : Nat)) ::
 List.replicate (nat_lit 0) (0 : UInt8) ++
 u8 (gt s (7 : Nat)) ::
 List.replicate (nat_lit 0) (0 : UInt8) ++
 u8 (gt s (8 : Nat)) ::
 List.replicate (nat_lit 0) (0 : UInt8) ++
 u8 (gt s (9 : Nat)) ::
 List.replicate (nat_lit 0) (0 : UInt8) ++
 u8 (gt s (10 : Nat)) ::
 List.replicate (nat_lit 0) (0 : UInt8) ++
 u8 (gt s (11 : Nat)) :: List.replicate (nat_lit 0) (0 : UInt8) ++
 u8 (gt s (12 : Nat)) :: List.replicate (nat_lit 0) (0 : UInt8) ++
 u8 (gt s (13 : Nat)) :: List.replicate (nat_lit 0) (0 : UInt8) ++
 u8 (gt s (14 : Nat)) :: List.replicate (nat_lit 0) (0 : UInt8) ++
 u8 (gt s (15 : Nat)) :: List.replicate (nat_lit 0) (0 : UInt8) ++
 two sp ++
 u8 (gt d (0 : Nat)) :: List.replicate (nat_lit 0) (0 : UInt8) ++
 u8 (gt d (1 : Nat)) :: List.replicate (nat_lit 0) (0 : UInt8) ++
 u8 (gt d (2 : Nat)) :: List.replicate (nat_lit 0) (0 : UInt8) ++
 u8 (gt d (3 : Nat)) :: List.replicate (nat_lit 0) (0 : UInt8) ++
 u8 (gt d (4 : Nat)) :: List.replicate (nat_lit 0) (0 : UInt8) ++
 u8 (gt d (5 : Nat)) :: List.replicate (nat_lit 0) (0 : UInt8) ++
 u8 (gt d (6 : Nat)) :: List.replicate (nat_lit 0) (0 : UInt8) ++
 u8 (gt d (7 : Nat)) :: List.replicate (nat_lit 0) (0 : UInt8) ++
 u8 (gt d (8 : Nat)) :: List.replicate (nat_lit 0) (0 : UInt8) ++
 u8 (gt d (9 : Nat)) :: List.replicate (nat_lit 0) (0 : UInt8) ++
 u8 (gt d (10 : Nat)) :: List.replicate (nat_lit 0) (0 : UInt8) ++
 u8 (gt d (11 : Nat)) :: List.replicate (nat_lit 0) (0 : UInt8) ++
 u8 (gt d (12 : Nat)) :: List.replicate (nat_lit 0) (0 : UInt8) ++
 u8 (gt d (13 : Nat)) :: List.replicate (nat_lit 0) (0 : UInt8) ++
 u8 (gt d (14 : Nat)) :: List.replicate (nat_lit 0) (0 : UInt8) ++
 u8 (gt d (15 : Nat)) :: List.replicate (nat_lit 0) (0 : UInt8) ++
 two dp))) := by kernel_rfl
theorem rFlBytes_v (s d : List UInt8) (sp dp : Int) (hs : s.length = 16) (hd : d.length = 16) : callV Eflb af_rFlBytes [.agg [.barr 16 s, .int .i64 sp, .barr 16 d, .int .i64 dp]] = some (.ownv 5 (.bytes (flB s sp d dp))) := by
 rw [rFlBytes_t]
 simp only [u8_gt]
 obtain ⟨a0, a1, a2, a3, a4, a5, a6, a7, a8, a9, a10, a11, a12, a13, a14, a15, rfl⟩ := list16 hs
 obtain ⟨c0, c1, c2, c3, c4, c5, c6, c7, c8, c9, c10, c11, c12, c13, c14, c15, rfl⟩ := list16 hd
 kernel_rfl
def cRFlBytes : List V → Option (V × Bool)
 | [.agg [.barr 16 s, .int .i64 sp, .barr 16 d, .int .i64 dp]] => some (.ownv 5 (.bytes (flB s sp d dp)), decide (s.length = 16 ∧ d.length = 16))
 | _ => none
theorem rFlBytes_con : ∀ vs v, cRFlBytes vs = some (v, true) → SpecV Tryz.prog 88 vs v := by
 intro vs v h; unfold cRFlBytes at h; split at h
 ·rename_i s sp d dp
  injection h with h; injection h with h hb; subst h
  exact callV_ok Eflb_ok af_rFlBytes_ok ((by obtain ⟨h0, h1⟩ := of_decide_eq_true hb; exact rFlBytes_v _ _ _ _ h0 h1))
 ·cases h
end Go.Proofs.YtfhljcbbgckdiaaGreat