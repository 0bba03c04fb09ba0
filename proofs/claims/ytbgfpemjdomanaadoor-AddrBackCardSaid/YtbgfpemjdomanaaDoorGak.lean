/- Part Gak of the proof: laws used by the law of this claim. -/
import Derived.Test.YtbgfpemjdomanaaDoorGaj
import Derived.Test.YtbgfpemjdomanaaDoorGai
set_option linter.all false
namespace Go.Proofs.YtbgfpemjdomanaaDoor
open Go Go.Am Go.RowKit Go.Mix Go.Bas
set_option maxRecDepth 100000
/-- a text cut at colons -/
def spl : List UInt8 → List (List UInt8)
  | [] => [[]]
  | c :: l => if c = 58 then [] :: spl l else match spl l with
    | p :: ps => (c :: p) :: ps
    | [] => [[c]]
theorem spl_cons : ∀ s : List UInt8, ∃ p ps, spl s = p :: ps
  | [] => ⟨_, _, rfl⟩
  | c :: l => by
    unfold spl
    split
    · exact ⟨_, _, rfl⟩
    · split
      · exact ⟨_, _, rfl⟩
      · exact ⟨_, _, rfl⟩
theorem spl_c (l : List UInt8) : spl (58 :: l) = [] :: spl l := rfl
theorem spl_n {c : UInt8} {l : List UInt8} {p ps} (h : c ≠ 58) (e : spl l = p :: ps) : spl (c :: l) = (c :: p) :: ps := by
  conv => lhs; unfold spl
  rw [if_neg h, e]
theorem splitK_zero (t s : List UInt8) : Lib.splitK t 0 0 s = [s] := rfl
theorem splitK_miss {t s : List UInt8} (k : Nat) (h : Lib.index s t = -1) : Lib.splitK t 0 k s = [s] := by
  cases k with
  | zero => rfl
  | succ k => unfold Lib.splitK; rw [h]; rfl
theorem splitK_hit {t s : List UInt8} (k i : Nat) (h : Lib.index s t = (i : Int)) : Lib.splitK t 0 (k + 1) s = s.take i :: Lib.splitK t 0 k (s.drop (i + t.length)) := by
  conv => lhs; unfold Lib.splitK
  rw [h, if_neg (by intro e; have := beq_iff_eq.1 e; omega)]
  rfl
theorem split_spl : ∀ s : List UInt8, Lib.splitK [58] 0 (Lib.count s [58]) s = spl s
  | [] => by
    rw [splitK_miss _ (by simp [Lib.index])]
    rfl
  | b :: l => by
    have ih := split_spl l
    by_cases h : b = 58
    · subst h
      rw [Lib.count_cons_eq, Nat.add_comm, splitK_hit _ 0 (by rw [Lib.index]; simp [List.isPrefixOf]), spl_c, ← ih]
      rfl
    · have hp : ([58] : List UInt8).isPrefixOf (b :: l) = false := by simp [List.isPrefixOf, Ne.symm h]
      have hix : Lib.index (b :: l) [58] = if Lib.index l [58] == -1 then -1 else Lib.index l [58] + 1 := by rw [Lib.index, hp]; simp
      rw [Lib.count_cons_ne b 58 l h]
      by_cases hm : Lib.index l [58] = -1
      · rw [splitK_miss _ hm] at ih
        rw [splitK_miss _ (by rw [hix, if_pos (beq_iff_eq.2 hm)]), spl_n h ih.symm]
      · have hge := Lib.index_ge l [58]
        obtain ⟨j, hj⟩ : ∃ j : Nat, Lib.index l [58] = j := ⟨(Lib.index l [58]).toNat, by omega⟩
        have hix' : Lib.index (b :: l) [58] = ((j + 1 : Nat) : Int) := by rw [hix, if_neg (fun e => hm (beq_iff_eq.1 e)), hj]; omega
        cases hk : Lib.count l [58] with
        | zero =>
          rw [hk, splitK_zero] at ih
          rw [splitK_zero, spl_n h ih.symm]
        | succ k =>
          rw [hk, splitK_hit _ j hj] at ih
          rw [splitK_hit _ (j + 1) hix', spl_n h ih.symm]
          rfl
theorem pieces_spl (s : List UInt8) : pieces s [58] = (spl s).map V.str := by
  unfold pieces
  have e : (fun b : ByteArray => V.str b.data.toList) = V.str ∘ (fun b : ByteArray => b.data.toList) := rfl
  rw [e, ← List.map_map, Lib.splitB_data, ← split_spl]
/-- a piece, read on from a number and how many digits it has -/
def rgP : List UInt8 → Int → Int → Option (Int × Int)
  | [], n, k => some (n, k)
  | c :: l, n, k => if vlB c.toNat = true then (if k = 4 then none else rgP l (n * 16 + vlN c.toNat) (k + 1)) else none
def pv (p : List UInt8) (n k : Int) : Option Int := match rgP p n k with
  | some (n', k') => if k' = 0 then none else some n'
  | none => none
def pvs : List (List UInt8) → Option (List V)
  | [] => some []
  | p :: ps => match pv p 0 0, pvs ps with
    | some n, some l => some (.int .i64 n :: l)
    | _, _ => none
def fin (r : Option (Int × Int × List V)) : Option (List V) := match r with
  | some (n, k, o) => some (if k > 0 then o ++ [.int .i64 n] else o)
  | none => none
def pvo (q : List (List UInt8)) (n k : Int) (o : List V) : Option (List V) := match q with
  | [] => none
  | p :: ps => match pv p n k, pvs ps with
    | some n', some l => some (o ++ .int .i64 n' :: l)
    | _, _ => none
theorem pv_none {c : UInt8} {p : List UInt8} {n k : Int} (h : ¬ vlB c.toNat = true) : pv (c :: p) n k = none := by
  unfold pv rgP; rw [if_neg h]
theorem pv_4 {c : UInt8} {p : List UInt8} {n : Int} : pv (c :: p) n 4 = none := by
  have e : rgP (c :: p) n 4 = none := by
    unfold rgP
    split
    · rw [if_pos rfl]
    · rfl
  unfold pv
  rw [e]
theorem pv_on {c : UInt8} {p : List UInt8} {n k : Int} (h : vlB c.toNat = true) (h4 : k ≠ 4) : pv (c :: p) n k = pv p (n * 16 + vlN c.toNat) (k + 1) := by
  conv => lhs; unfold pv rgP
  rw [if_pos h, if_neg h4]
  rfl
theorem pvo_pvs (q : List (List UInt8)) (h : ∃ p ps, q = p :: ps) (o : List V) : pvo q 0 0 o = (pvs q).map (o ++ ·) := by
  obtain ⟨p, ps, rfl⟩ := h
  have e : pvs (p :: ps) = match pv p 0 0, pvs ps with
    | some n, some l => some (.int .i64 n :: l)
    | _, _ => none := rfl
  rw [e]
  unfold pvo
  simp only
  cases pv p 0 0 with
  | none => rfl
  | some n =>
    cases pvs ps with
    | none => rfl
    | some l => rfl
theorem colon {c : UInt8} : (c.toNat : Int) = 58 ↔ c = 58 := by
  constructor
  · intro h
    have h : c.toNat = 58 := by omega
    exact UInt8.toNat_inj.1 h
  · rintro rfl; rfl
theorem rgE_spl : ∀ (l : List UInt8) (n k : Int) (o : List V), 0 ≤ k → (l ≠ [] ∨ k > 0) → fin (rgE l n k o) = pvo (spl l) n k o
  | [], n, k, o, h0, h => by
    have hk : k > 0 := by rcases h with h | h; exact absurd rfl h; exact h
    unfold rgE fin spl pvo pv rgP
    simp only
    rw [if_pos hk, if_neg (by omega)]
    rfl
  | c :: l, n, k, o, h0, _ => by
    unfold rgE
    by_cases hc : c = 58
    · rw [if_pos (colon.2 hc)]
      subst hc
      rw [spl_c]
      by_cases hk : k = 0
      · subst hk
        rw [if_pos rfl]
        rfl
      · rw [if_neg hk]
        by_cases hl : l = []
        · subst hl
          rw [if_pos rfl]
          have e2 : pvs (spl []) = none := rfl
          unfold pvo
          simp only
          rw [e2]
          cases pv [] n k <;> rfl
        · rw [if_neg hl, rgE_spl l 0 0 _ (Int.le_refl _) (.inl hl), pvo_pvs _ (spl_cons l)]
          unfold pvo pv rgP
          simp only
          rw [if_neg hk]
          cases pvs (spl l) with
          | none => rfl
          | some q => simp
    · rw [if_neg (fun e => hc (colon.1 e))]
      obtain ⟨p, ps, e⟩ := spl_cons l
      rw [spl_n hc e]
      unfold pvo
      simp only
      by_cases hv : vlB c.toNat = true
      · rw [if_pos hv]
        by_cases h4 : k = 4
        · subst h4
          rw [if_pos rfl, pv_4]
          rfl
        · rw [if_neg h4, rgE_spl l _ _ _ (by omega) (.inr (by omega)), e, pv_on hv h4]
          rfl
      · rw [if_neg hv, pv_none hv]
        rfl
theorem grS_eq {n v : Int} (h0 : 0 ≤ n) (h1 : n < 4096) (v0 : 0 ≤ v) (v1 : v ≤ 15) : grS n v = n * 16 + v := by
  unfold grS
  have e : wrap64 (n * 16) = n * 16 := by unfold wrap64; omega
  rw [e]
  exact or_i64 (n * 16) v 4 (by omega) (by omega) ⟨n, by omega⟩ (by omega) v0 (by omega)
theorem rgP_gr : ∀ (p : List UInt8) (n : Int) (k : Nat), 0 ≤ n → n < 16 ^ k → k ≤ 4 → rgP p n k = if p.length + k ≤ 4 then (grR p n).map (·, ((p.length + k : Nat) : Int)) else none
  | [], n, k, h0, h1, h4 => by
    rw [if_pos (by simpa using h4)]
    simp [rgP, grR]
  | c :: p, n, k, h0, h1, h4 => by
    unfold rgP
    conv => rhs; unfold grR
    by_cases hv : vlB c.toNat = true
    · rw [if_pos hv, if_pos hv]
      have hr := vl_rng hv
      by_cases hk : (k : Int) = 4
      · rw [if_pos hk, if_neg (by rw [List.length_cons]; omega)]
      · have hb : n < 4096 := by
          have : k = 0 ∨ k = 1 ∨ k = 2 ∨ k = 3 := by omega
          rcases this with rfl | rfl | rfl | rfl <;> simp at h1 <;> omega
        rw [if_neg hk, grS_eq h0 hb hr.1 hr.2]
        have := rgP_gr p (n * 16 + vlN c.toNat) (k + 1) (by omega) (by rw [Int.pow_succ]; omega) (by omega)
        rw [show ((k : Int) + 1) = ((k + 1 : Nat) : Int) by omega, this, List.length_cons, show p.length + (k + 1) = p.length + 1 + k by omega]
    · rw [if_neg hv, if_neg hv]
      split <;> rfl
theorem pv_gr (p : List UInt8) : pv p 0 0 = if grB p = true then some (grN p) else none := by
  unfold pv
  have := rgP_gr p 0 0 (Int.le_refl _) (by decide) (by omega)
  rw [show ((0 : Nat) : Int) = 0 from rfl] at this
  rw [this]
  unfold grB grN
  by_cases h : p.length + 0 ≤ 4
  · rw [if_pos h]
    cases grR p 0 with
    | none => rfl
    | some n =>
      simp only [Option.map_some, decide_eq_true_eq]
      by_cases h1 : p.length = 0
      · rw [if_pos (by omega), if_neg (by omega)]
      · rw [if_neg (by omega), if_pos (by omega)]
  · rw [if_neg h]
    cases grR p 0 with
    | none => rfl
    | some n =>
      simp only [decide_eq_true_eq]
      rw [if_neg (by omega)]
theorem pvs_gr : ∀ q : List (List UInt8), pvs q = if gkL (q.map V.str) = true then some (gnL (q.map V.str)) else none
  | [] => rfl
  | p :: ps => by
    unfold pvs
    rw [pv_gr, pvs_gr ps]
    have e : gkL ((p :: ps).map V.str) = (grB p && gkL (ps.map V.str)) := rfl
    have e2 : gnL ((p :: ps).map V.str) = .int .i64 (grN p) :: gnL (ps.map V.str) := rfl
    rw [e, e2]
    cases grB p with
    | false => rfl
    | true =>
      cases gkL (ps.map V.str) with
      | false => rfl
      | true => rfl
theorem rg_fin (s : List UInt8) : fin (rgE s 0 0 []) = if gsB s = true then some (gsL s) else none := by
  by_cases h : s = []
  · subst h; rfl
  · rw [rgE_spl s 0 0 [] (Int.le_refl _) (.inl h), pvo_pvs _ (spl_cons s), pvs_gr, ← pieces_spl]
    have e : gsB s = gkL (pieces s [58]) := by
      unfold gsB
      rw [show (s == []) = false by simpa using h]
      rfl
    have e2 : gkL (pieces s [58]) = true → gsL s = gnL (pieces s [58]) := by
      intro hg
      unfold gsL
      rw [if_neg h, if_pos hg]
    rw [e]
    by_cases hg : gkL (pieces s [58]) = true
    · rw [if_pos hg, if_pos hg, e2 hg]
      simp
    · rw [if_neg hg, if_neg hg]
      rfl
theorem rg_b (s : List UInt8) : rgK s = gsB s := by
  have h := rg_fin s
  unfold rgK
  cases hr : rgE s 0 0 [] with
  | none =>
    rw [hr] at h
    cases hg : gsB s with
    | false => rfl
    | true => rw [hg] at h; cases h
  | some r =>
    rw [hr] at h
    obtain ⟨n, k, o⟩ := r
    cases hg : gsB s with
    | true => rfl
    | false => rw [hg] at h; cases h
theorem rg_l (s : List UInt8) : rgL s = gsL s := by
  have h := rg_fin s
  unfold rgL
  cases hr : rgE s 0 0 [] with
  | none =>
    rw [hr] at h
    cases hg : gsB s with
    | false =>
      unfold gsB at hg
      unfold gsL
      simp at hg
      rw [if_neg hg.1, if_neg (by rw [hg.2]; decide)]
    | true => rw [hg] at h; cases h
  | some r =>
    rw [hr] at h
    obtain ⟨n, k, o⟩ := r
    cases hg : gsB s with
    | true => rw [hg] at h; exact Option.some.inj h
    | false => rw [hg] at h; cases h
/-! ### where two colons stand -/
theorem two_colons (a b : UInt8) (l : List UInt8) : ([58, 58] : List UInt8).isPrefixOf (a :: b :: l) = true ↔ (a.toNat : Int) = 58 ∧ (b.toNat : Int) = 58 := by
  rw [colon, colon]
  simp only [List.isPrefixOf, Bool.and_true, Bool.and_eq_true, beq_iff_eq]
  constructor
  · rintro ⟨h, h2⟩; exact ⟨h.symm, h2.symm⟩
  · rintro ⟨h, h2⟩; exact ⟨h.symm, h2.symm⟩
theorem rdF_index (s : List UInt8) : ∀ (k i : Nat), s.length - 1 - i = k → rdF s k i = if Lib.index (s.drop i) [58, 58] == -1 then -1 else Lib.index (s.drop i) [58, 58] + i
  | 0, i, h => by
    have e : Lib.index (s.drop i) [58, 58] = -1 := by
      cases hd : s.drop i with
      | nil => rfl
      | cons a l =>
        cases l with
        | nil => simp [Lib.index, List.isPrefixOf]
        | cons b l =>
          have := congrArg List.length hd
          simp only [List.length_drop, List.length_cons] at this
          omega
    rw [e]
    rfl
  | k + 1, i, h => by
    have h1 : i < s.length := by omega
    have h2 : i + 1 < s.length := by omega
    have ih := rdF_index s k (i + 1) (by omega)
    have e1 := drop_gt h1
    have e2 := drop_gt h2
    unfold rdF
    rw [gt_at h1, gt_at h2, ih]
    generalize s[i]'h1 = a at e1
    generalize hb : s[i + 1]'h2 = b at e2
    have hix : Lib.index (s.drop i) [58, 58] = if ([58, 58] : List UInt8).isPrefixOf (a :: s.drop (i + 1)) = true then 0 else if Lib.index (s.drop (i + 1)) [58, 58] == -1 then -1 else Lib.index (s.drop (i + 1)) [58, 58] + 1 := by
      rw [e1]
      rfl
    rw [hix]
    by_cases hc : (a.toNat : Int) = 58 ∧ (b.toNat : Int) = 58
    · have hpre : ([58, 58] : List UInt8).isPrefixOf (a :: s.drop (i + 1)) = true := by rw [e2]; exact (two_colons a b _).2 hc
      rw [if_pos hc, hpre]
      simp
    · have hpre : ([58, 58] : List UInt8).isPrefixOf (a :: s.drop (i + 1)) = false := by
        rw [e2, Bool.eq_false_iff]; exact fun e => hc ((two_colons a b _).1 e)
      rw [if_neg hc, hpre]
      simp only [Bool.false_eq_true, if_false]
      have hge := Lib.index_ge (s.drop (i + 1)) [58, 58]
      by_cases hm : Lib.index (s.drop (i + 1)) [58, 58] = -1
      · rw [hm]; rfl
      · have b1 : (Lib.index (s.drop (i + 1)) [58, 58] == -1) = false := by simpa using hm
        rw [b1]
        have b2 : (Lib.index (s.drop (i + 1)) [58, 58] + 1 == -1) = false := by simp; omega
        simp only [Bool.false_eq_true, if_false]
        rw [b2]
        simp only [Bool.false_eq_true, if_false]
        omega
theorem rdAt_index (s : List UInt8) : rdAt s = Lib.index s [58, 58] := by
  unfold rdAt
  rw [rdF_index s _ 0 rfl, List.drop_zero]
  split
  · rename_i h
    exact (beq_iff_eq.1 h).symm
  · omega
theorem cut3_at (s : List UInt8) : cut3 s [58, 58] = decide (0 ≤ rdAt s) := by
  rw [rdAt_index]
  unfold cut3 Lib.cut
  split
  · rename_i h; exact (decide_eq_true h).symm
  · rename_i h; exact (decide_eq_false h).symm
theorem cut_no (s : List UInt8) (h : rdAt s < 0) : cut1 s [58, 58] = s ∧ cut2 s [58, 58] = [] := by
  rw [rdAt_index] at h
  unfold cut1 cut2 Lib.cut
  rw [if_neg (by omega)]
  exact ⟨rfl, rfl⟩
theorem cut_yes (s : List UInt8) (hs : s.length ≤ 900) (h : 0 ≤ rdAt s) : cut1 s [58, 58] = rdA s ∧ cut2 s [58, 58] = rdB s := by
  have hr := rdAt_rng s
  have e := rdAt_index s
  unfold rdA rdB cutL
  rw [w64 (x := rdAt s + 2) (by omega) (by omega), List.drop_zero, Nat.sub_zero]
  unfold cut1 cut2 Lib.cut
  rw [← e, if_pos h]
  refine ⟨rfl, ?_⟩
  show s.drop ((rdAt s).toNat + 2) = (s.drop (rdAt s + 2).toNat).take (s.length - (rdAt s + 2).toNat)
  rw [List.take_of_length_le (by rw [List.length_drop]; omega)]
  congr 1
  omega
/-! ### the numbers, with zeros between -/
theorem cpF_eq (l : List V) (hl : ∀ j, j < l.length → eta (.int .i64) (l.getD j .undef) = l.getD j .undef) : ∀ k j w, k + j = l.length → l.length ≤ w.length → cpF l k j w = w.take j ++ (l.drop j ++ w.drop l.length)
  | 0, j, w, h, hw => by
    show w = _
    rw [List.drop_of_length_le (by omega), show l.length = j by omega, List.nil_append, List.take_append_drop]
  | k + 1, j, w, h, hw => by
    show cpF l k (j + 1) _ = _
    have hj : j < l.length := by omega
    rw [cpF_eq l hl k (j + 1) _ (by omega) (by rw [List.length_set]; exact hw), hl j hj, drop_next (d := .undef) hj]
    have e1 : (w.set j (l.getD j .undef)).take (j + 1) = w.take j ++ [l.getD j .undef] := by
      rw [List.take_add_one, List.take_set, List.getElem?_set, if_pos rfl, if_pos (by omega), List.set_eq_of_length_le (by rw [List.length_take]; omega)]
      rfl
    have e2 : (w.set j (l.getD j .undef)).drop l.length = w.drop l.length := by
      rw [List.drop_set, if_pos hj]
    rw [e1, e2]
    simp
theorem cpG_eq (m : List V) (hm : ∀ j, j < m.length → eta (.int .i64) (m.getD j .undef) = m.getD j .undef) : ∀ k j w, k + j = m.length → w.length = 8 → m.length ≤ 8 → cpG m k j w = w.take (8 - m.length + j) ++ m.drop j
  | 0, j, w, h, hw, h8 => by
    show w = _
    rw [List.drop_of_length_le (by omega), List.append_nil, List.take_of_length_le (by omega)]
  | k + 1, j, w, h, hw, h8 => by
    show cpG m k (j + 1) _ = _
    have hj : j < m.length := by omega
    rw [cpG_eq m hm k (j + 1) _ (by omega) (by rw [List.length_set]; exact hw) h8, hm j hj, drop_next (d := .undef) hj]
    have e1 : (w.set (8 - m.length + j) (m.getD j .undef)).take (8 - m.length + (j + 1)) = w.take (8 - m.length + j) ++ [m.getD j .undef] := by
      rw [← Nat.add_assoc, List.take_add_one, List.take_set, List.getElem?_set, if_pos rfl, if_pos (by omega), List.set_eq_of_length_le (by rw [List.length_take]; omega)]
      rfl
    rw [e1]
    simp
theorem gs_eta (s : List UInt8) (j : Nat) (h : j < (gsL s).length) : eta (.int .i64) ((gsL s).getD j .undef) = (gsL s).getD j .undef := by
  rw [List.getD_eq_getElem?_getD, List.getElem?_eq_getElem h]
  have hm : (gsL s)[j] ∈ gsL s := List.getElem_mem h
  generalize (gsL s)[j] = v at hm
  unfold gsL at hm
  split at hm
  · cases hm
  · split at hm
    · unfold gnL at hm
      obtain ⟨x, _, rfl⟩ := List.mem_map.1 hm
      rfl
    · cases hm
/-- numbers, zeros, numbers -/
def adW (l m : List V) : List V := l ++ (List.replicate (8 - (l.length + m.length)) (.int .i64 0) ++ m)
theorem rdW_eq (s : List UInt8) (h : (rgL (rdA s)).length + (rgL (rdB s)).length ≤ 7) : rdW s = adW (gsL (rdA s)) (gsL (rdB s)) := by
  unfold rdW rdV
  rw [rg_l, rg_l] at h ⊢
  have hz : rdZ.length = 8 := rfl
  rw [cpF_eq _ (gs_eta _) _ 0 _ (by omega) (by omega), List.take_zero, List.nil_append, List.drop_zero]
  rw [cpG_eq _ (gs_eta _) _ 0 _ (by omega) (by rw [List.length_append, List.length_drop]; omega) (by omega), List.drop_zero, Nat.add_zero]
  unfold adW rdZ
  rw [List.take_append, List.take_of_length_le (by omega), List.append_assoc, List.drop_replicate, List.take_replicate]
  congr 3
  omega
end Go.Proofs.YtbgfpemjdomanaaDoor

namespace Go.Proofs.YtbgfpemjdomanaaDoor
open Go Go.Am Go.RowKit Go.Mix Go.Bas
set_option maxRecDepth 100000
theorem hexD_ok : ∀ k : Nat, k < 16 → vlB ((hexD k).toNat : Int) = true ∧ vlN ((hexD k).toNat : Int) = (k : Int) ∧ hexD k ≠ 58 := by decide
theorem hx_ok (n : Int) : vlB ((hx n).toNat : Int) = true ∧ vlN ((hx n).toNat : Int) = n % 16 ∧ hx n ≠ 58 := by
  have h := hexD_ok (n % 16).toNat (by omega)
  refine ⟨h.1, ?_, h.2.2⟩
  have := h.2.1
  unfold hx
  omega
theorem hexI_no (n : Int) : ∀ c ∈ hexI n, c ≠ 58 := by
  intro c hc
  unfold hexI at hc
  split at hc
  · simp only [List.mem_cons, List.not_mem_nil, or_false] at hc
    subst hc; exact (hx_ok _).2.2
  · split at hc
    · simp only [List.mem_cons, List.not_mem_nil, or_false] at hc
      rcases hc with rfl | rfl <;> exact (hx_ok _).2.2
    · split at hc
      · simp only [List.mem_cons, List.not_mem_nil, or_false] at hc
        rcases hc with rfl | rfl | rfl <;> exact (hx_ok _).2.2
      · simp only [List.mem_cons, List.not_mem_nil, or_false] at hc
        rcases hc with rfl | rfl | rfl | rfl <;> exact (hx_ok _).2.2
theorem rgP_hx (x : Int) (l : List UInt8) (n k : Int) (h : k ≠ 4) : rgP (hx x :: l) n k = rgP l (n * 16 + x % 16) (k + 1) := by
  conv => lhs; unfold rgP
  rw [if_pos (hx_ok x).1, if_neg h, (hx_ok x).2.1]
theorem rgP_hex (n : Int) (h0 : 0 ≤ n) (h1 : n ≤ 65535) : ∃ k, rgP (hexI n) 0 0 = some (n, k) ∧ k ≠ 0 := by
  have fin : ∀ (m k : Int), m = n → rgP [] m k = some (n, k) := by rintro _ k rfl; rfl
  unfold hexI
  split
  · exact ⟨_, by rw [rgP_hx _ _ _ _ (by decide)]; exact fin _ _ (by omega), by decide⟩
  · split
    · exact ⟨_, by rw [rgP_hx _ _ _ _ (by decide), rgP_hx _ _ _ _ (by decide)]; exact fin _ _ (by omega), by decide⟩
    · split
      · exact ⟨_, by rw [rgP_hx _ _ _ _ (by decide), rgP_hx _ _ _ _ (by decide), rgP_hx _ _ _ _ (by decide)]; exact fin _ _ (by omega), by decide⟩
      · exact ⟨_, by rw [rgP_hx _ _ _ _ (by decide), rgP_hx _ _ _ _ (by decide), rgP_hx _ _ _ _ (by decide), rgP_hx _ _ _ _ (by decide)]; exact fin _ _ (by omega), by decide⟩
theorem pv_hex (n : Int) (h0 : 0 ≤ n) (h1 : n ≤ 65535) : pv (hexI n) 0 0 = some n := by
  obtain ⟨k, e, hk⟩ := rgP_hex n h0 h1
  unfold pv
  rw [e]
  simp only
  rw [if_neg hk]
theorem spl_piece : ∀ (p : List UInt8), (∀ c ∈ p, c ≠ 58) → spl p = [p]
  | [], _ => rfl
  | c :: p, h => spl_n (h c (List.mem_cons_self ..)) (spl_piece p fun x hx => h x (List.mem_cons_of_mem _ hx))
theorem spl_app : ∀ (p : List UInt8), (∀ c ∈ p, c ≠ 58) → ∀ l, spl (p ++ 58 :: l) = p :: spl l
  | [], _, _ => rfl
  | c :: p, h, l => spl_n (h c (List.mem_cons_self ..)) (spl_app p (fun x hx => h x (List.mem_cons_of_mem _ hx)) l)
theorem spl_jn : ∀ (v : V) (l : List V), spl (jnF (v :: l)) = (v :: l).map fun u => hexI (toI u)
  | v, [] => by rw [jnF_1, spl_piece _ (hexI_no _)]; rfl
  | v, u :: l => by
    rw [jnF_c, List.singleton_append, spl_app _ (hexI_no _), spl_jn u l]
    rfl
/-- integers of 16 bits -/
def I16 (l : List V) : Prop := ∀ v ∈ l, v = .int .i64 (toI v) ∧ 0 ≤ toI v ∧ toI v ≤ 65535
theorem pvs_hex : ∀ l : List V, I16 l → pvs (l.map fun u => hexI (toI u)) = some l
  | [], _ => rfl
  | v :: l, h => by
    obtain ⟨e, h0, h1⟩ := h v (List.mem_cons_self ..)
    show (match pv (hexI (toI v)) 0 0, pvs (l.map fun u => hexI (toI u)) with
      | some n, some l => some (V.int .i64 n :: l)
      | _, _ => none) = _
    rw [pv_hex _ h0 h1, pvs_hex l fun x hx => h x (List.mem_cons_of_mem _ hx)]
    simp only
    rw [← e]
theorem jn_back (l : List V) (h : I16 l) : rgK (jnF l) = true ∧ rgL (jnF l) = l := by
  rw [rg_b, rg_l]
  cases l with
  | nil => exact ⟨rfl, rfl⟩
  | cons v l =>
    have e : pvs ((spl (jnF (v :: l)))) = some (v :: l) := by rw [spl_jn]; exact pvs_hex _ h
    rw [pvs_gr, ← pieces_spl] at e
    have hne : jnF (v :: l) ≠ [] := by
      intro c
      have := spl_jn v l
      rw [c] at this
      have hp := hexI_pos (toI v)
      cases l with
      | nil =>
        rw [show spl [] = [[]] from rfl] at this
        simp only [List.map_cons, List.map_nil, List.cons.injEq, and_true] at this
        rw [← this] at hp
        simp at hp
      | cons u l => rw [show spl [] = [[]] from rfl] at this; simp at this
    by_cases hg : gkL (pieces (jnF (v :: l)) [58]) = true
    · rw [if_pos hg] at e
      refine ⟨?_, ?_⟩
      · unfold gsB; rw [hg]; simp
      · unfold gsL; rw [if_neg hne, if_pos hg]; exact Option.some.inj e
    · rw [if_neg hg] at e; cases e
/-! ### where two colons stand -/
def shx (k : Nat) (x : Int) : Int := if x == -1 then -1 else x + k
theorem shx_0 (x : Int) : shx 0 x = x := by
  unfold shx
  split
  · rename_i h; exact (beq_iff_eq.1 h).symm
  · omega
theorem shx_add (j k : Nat) (x : Int) (h : -1 ≤ x) : shx j (shx k x) = shx (k + j) x := by
  unfold shx
  by_cases e : x = -1
  · subst e; rfl
  · have e1 : (x == -1) = false := by simpa using e
    rw [e1]
    simp only [Bool.false_eq_true, if_false]
    have e2 : (x + (k : Int) == -1) = false := by simp; omega
    rw [e2]
    simp only [Bool.false_eq_true, if_false]
    omega
theorem idx_no {c : UInt8} (h : c ≠ 58) (r : List UInt8) : Lib.index (c :: r) [58, 58] = shx 1 (Lib.index r [58, 58]) := by
  have hp : ([58, 58] : List UInt8).isPrefixOf (c :: r) = false := by simp [List.isPrefixOf, Ne.symm h]
  rw [Lib.index, hp]
  rfl
theorem idx_colon {c : UInt8} (h : c ≠ 58) (r : List UInt8) : Lib.index (58 :: c :: r) [58, 58] = shx 1 (Lib.index (c :: r) [58, 58]) := by
  have hp : ([58, 58] : List UInt8).isPrefixOf (58 :: c :: r) = false := by simp [List.isPrefixOf, Ne.symm h]
  rw [Lib.index, hp]
  rfl
theorem idx_hex : ∀ (p : List UInt8), (∀ c ∈ p, c ≠ 58) → ∀ r, Lib.index (p ++ r) [58, 58] = shx p.length (Lib.index r [58, 58])
  | [], _, r => (shx_0 _).symm
  | c :: p, h, r => by
    rw [List.cons_append, idx_no (h c (List.mem_cons_self ..)), idx_hex p (fun x hx => h x (List.mem_cons_of_mem _ hx)) r, shx_add _ _ _ (Lib.index_ge _ _)]
    rfl
theorem jn_head (v : V) (l : List V) (R : List UInt8) : ∃ c r, jnF (v :: l) ++ R = c :: r ∧ c ≠ 58 := by
  have hp := hexI_pos (toI v)
  have hn := hexI_no (toI v)
  cases e : hexI (toI v) with
  | nil => rw [e] at hp; simp at hp
  | cons c r =>
    rw [e] at hn
    refine ⟨c, ?_⟩
    cases l with
    | nil => exact ⟨r ++ R, by rw [jnF_1, e]; rfl, hn c (List.mem_cons_self ..)⟩
    | cons u l => exact ⟨_, by rw [jnF_c, e, List.cons_append, List.cons_append], hn c (List.mem_cons_self ..)⟩
theorem idx_jn : ∀ (l : List V) (R : List UInt8), Lib.index (jnF l ++ R) [58, 58] = shx (jnF l).length (Lib.index R [58, 58])
  | [], R => by rw [jnF_0]; exact (shx_0 _).symm
  | [v], R => by rw [jnF_1]; exact idx_hex _ (hexI_no _) R
  | v :: u :: l, R => by
    obtain ⟨c, r, hc, h58⟩ := jn_head u l R
    have ih := idx_jn (u :: l) R
    rw [jnF_c, List.append_assoc, List.append_assoc, idx_hex _ (hexI_no _), List.singleton_append, hc, idx_colon h58, ← hc, ih, shx_add _ _ _ (Lib.index_ge _ _), shx_add _ _ _ (Lib.index_ge _ _)]
    congr 1
    simp only [List.length_append, List.length_singleton]
    omega
theorem zr_rep : ∀ l : List V, I16 l → l = List.replicate (zrF l) (.int .i64 0) ++ l.drop (zrF l)
  | [], _ => rfl
  | v :: l, h => by
    unfold zrF
    by_cases hz : toI v = 0
    · rw [if_pos hz, List.replicate_succ, List.cons_append, List.drop_succ_cons, ← zr_rep l fun x hx => h x (List.mem_cons_of_mem _ hx)]
      have := (h v (List.mem_cons_self ..)).1
      rw [hz] at this
      rw [this]
    · rw [if_neg hz]
      rfl
theorem I16_sub {l m : List V} (h : I16 l) (hs : ∀ v ∈ m, v ∈ l) : I16 m := fun v hv => h v (hs v hv)
theorem rwF_zr {w : List V} (h : w.length = 8) : (rwF w 0 0 0).2 = zrF (w.drop (rwF w 0 0 0).1.toNat) := by
  rw [rw_all h]
theorem tx_back (w : List V) (h8 : w.length = 8) (hw : I16 w) : rdQ (txF w) = some w := by
  have hr := rwF_rng w 0 0 0 (Int.le_refl _) (Int.le_refl _) (Int.le_refl _) (by omega)
  have hz := rwF_zr h8
  obtain ⟨f, n, hfn⟩ : ∃ f n, rwF w 0 0 0 = (f, n) := ⟨_, _, rfl⟩
  unfold txF
  rw [hfn] at hr hz ⊢
  simp only at hr hz ⊢
  by_cases hn : n < 2
  · rw [if_pos hn]
    have hi : rdAt (jnF w) = -1 := by
      rw [rdAt_index, ← List.append_nil (jnF w), idx_jn]
      rfl
    have hb := jn_back w hw
    unfold rdQ
    rw [if_pos (by omega), if_pos ⟨hb.1, by rw [hb.2]; exact h8⟩, hb.2]
  · rw [if_neg hn]
    obtain ⟨f, rfl⟩ : ∃ f' : Nat, f = f' := ⟨f.toNat, by omega⟩
    obtain ⟨n, rfl⟩ : ∃ n' : Nat, n = n' := ⟨n.toNat, by omega⟩
    rw [show ((f : Int) + (n : Int)).toNat = f + n by omega, Int.toNat_natCast] at *
    have hA := jn_back (w.take f) (I16_sub hw fun v hv => List.mem_of_mem_take hv)
    have hB := jn_back (w.drop (f + n)) (I16_sub hw fun v hv => List.mem_of_mem_drop hv)
    obtain ⟨A, hAe⟩ : ∃ A, A = jnF (w.take f) := ⟨_, rfl⟩
    obtain ⟨B, hBe⟩ : ∃ B, B = jnF (w.drop (f + n)) := ⟨_, rfl⟩
    have hAl : A.length ≤ 5 * 8 := by
      have := jnF_len (w.take f)
      rw [List.length_take, ← hAe] at this
      omega
    have hBl : B.length ≤ 5 * 8 := by
      have := jnF_len (w.drop (f + n))
      rw [List.length_drop, ← hBe] at this
      omega
    have hat : rdAt (A ++ [58, 58] ++ B) = A.length := by
      rw [rdAt_index, List.append_assoc, hAe, idx_jn, ← hAe]
      have : Lib.index ([58, 58] ++ B) [58, 58] = 0 := by
        show Lib.index (58 :: (58 :: B)) [58, 58] = 0
        rw [Lib.index]
        simp [List.isPrefixOf]
      rw [this]
      show (0 : Int) + _ = _
      omega
    have hrA : rdA (A ++ [58, 58] ++ B) = A := by
      unfold rdA cutL
      rw [hat]
      simp
    have hrB : rdB (A ++ [58, 58] ++ B) = B := by
      unfold rdB cutL
      rw [hat, w64 (x := (A.length : Int) + 2) (by omega) (by omega), show ((A.length : Int) + 2).toNat = A.length + 2 by omega]
      have e : (A ++ [58, 58] ++ B).drop (A.length + 2) = B := by
        rw [List.drop_append, List.drop_of_length_le (by simp)]
        simp
      rw [e]
      exact List.take_of_length_le (by simp only [List.length_append, List.length_cons, List.length_nil]; omega)
    rw [← hAe, ← hBe]
    rw [← hAe] at hA
    rw [← hBe] at hB
    have hlen : (rgL A).length + (rgL B).length ≤ 7 := by
      rw [hA.2, hB.2, List.length_take, List.length_drop]
      omega
    unfold rdQ
    rw [if_neg (by omega)]
    rw [rdW_eq _ (by rw [hrA, hrB]; exact hlen), hrA, hrB, if_pos ⟨hA.1, hB.1, hlen⟩, ← rg_l, ← rg_l, hA.2, hB.2]
    congr 1
    unfold adW
    rw [List.length_take, List.length_drop, show 8 - (min f w.length + (w.length - (f + n))) = n by omega]
    have hd := zr_rep (w.drop f) (I16_sub hw fun v hv => List.mem_of_mem_drop hv)
    rw [show zrF (w.drop f) = n by omega, List.drop_drop] at hd
    rw [← hd, List.take_append_drop]
theorem I16_wd (a : List UInt8) : I16 (wdL a) := by
  intro v hv
  unfold wdL at hv
  simp only [List.mem_cons, List.not_mem_nil, or_false] at hv
  rcases hv with rfl | rfl | rfl | rfl | rfl | rfl | rfl | rfl <;> exact ⟨rfl, wdI_rng _ _⟩
theorem two_wd (x y : UInt8) : two ((x.toNat : Int) * 256 + (y.toNat : Int)) = [x, y] := by
  have hx := x.toNat_lt
  have hy := y.toNat_lt
  have e1 : b8 (((x.toNat : Int) * 256 + (y.toNat : Int)) / 256) = x := UInt8.toNat_inj.1 (by have := b8_toNat (((x.toNat : Int) * 256 + (y.toNat : Int)) / 256); omega)
  have e2 : b8 ((x.toNat : Int) * 256 + (y.toNat : Int)) = y := UInt8.toNat_inj.1 (by have := b8_toNat ((x.toNat : Int) * 256 + (y.toNat : Int)); omega)
  unfold two
  rw [e1, e2]
theorem of_wd (a : List UInt8) (h : a.length = 16) : ofL (wdL a) = a := by
  match a, h with
  | [a0, a1, a2, a3, a4, a5, a6, a7, a8, a9, b0, b1, b2, b3, b4, b5], _ =>
    show two ((a0.toNat : Int) * 256 + (a1.toNat : Int)) ++ (two ((a2.toNat : Int) * 256 + (a3.toNat : Int)) ++ (two ((a4.toNat : Int) * 256 + (a5.toNat : Int)) ++ (two ((a6.toNat : Int) * 256 + (a7.toNat : Int)) ++ (two ((a8.toNat : Int) * 256 + (a9.toNat : Int)) ++ (two ((b0.toNat : Int) * 256 + (b1.toNat : Int)) ++ (two ((b2.toNat : Int) * 256 + (b3.toNat : Int)) ++ two ((b4.toNat : Int) * 256 + (b5.toNat : Int)))))))) = _
    simp only [two_wd]
    rfl
theorem ad_back (a : List UInt8) : rdQ (adT a) = some (wdL a) := tx_back _ rfl (I16_wd a)
theorem adT_inj {a b : List UInt8} (ha : a.length = 16) (hb : b.length = 16) (h : adT a = adT b) : a = b := by
  have e := ad_back a
  rw [h, ad_back b] at e
  rw [← of_wd a ha, ← of_wd b hb, Option.some.inj e]
end Go.Proofs.YtbgfpemjdomanaaDoor
