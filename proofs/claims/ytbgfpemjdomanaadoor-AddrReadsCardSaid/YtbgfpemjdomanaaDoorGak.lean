/- Part Gak of the proof: laws used by the law of this claim. -/
import Derived.Test.YtbgfpemjdomanaaDoorGaj
import Derived.Test.YtbgfpemjdomanaaDoorGai
set_option linter.all false
namespace Go.Proofs.YtbgfpemjdomanaaDoor
open Go Go.Am Go.RowKit Go.Mix Go.Bas
set_option maxRecDepth 100000
/-- a text cut at colons -/
def spl : List UInt8 → List (List UInt8)
  | [] => [[]]
  | c :: l => if c = 58 then [] :: spl l else match spl l with
    | p :: ps => (c :: p) :: ps
    | [] => [[c]]
theorem spl_cons : ∀ s : List UInt8, ∃ p ps, spl s = p :: ps
  | [] => ⟨_, _, rfl⟩
  | c :: l => by
    unfold spl
    split
    · exact ⟨_, _, rfl⟩
    · split
      · exact ⟨_, _, rfl⟩
      · exact ⟨_, _, rfl⟩
theorem spl_c (l : List UInt8) : spl (58 :: l) = [] :: spl l := rfl
theorem spl_n {c : UInt8} {l : List UInt8} {p ps} (h : c ≠ 58) (e : spl l = p :: ps) : spl (c :: l) = (c :: p) :: ps := by
  conv => lhs; unfold spl
  rw [if_neg h, e]
theorem splitK_zero (t s : List UInt8) : Lib.splitK t 0 0 s = [s] := rfl
theorem splitK_miss {t s : List UInt8} (k : Nat) (h : Lib.index s t = -1) : Lib.splitK t 0 k s = [s] := by
  cases k with
  | zero => rfl
  | succ k => unfold Lib.splitK; rw [h]; rfl
theorem splitK_hit {t s : List UInt8} (k i : Nat) (h : Lib.index s t = (i : Int)) : Lib.splitK t 0 (k + 1) s = s.take i :: Lib.splitK t 0 k (s.drop (i + t.length)) := by
  conv => lhs; unfold Lib.splitK
  rw [h, if_neg (by intro e; have := beq_iff_eq.1 e; omega)]
  rfl
theorem split_spl : ∀ s : List UInt8, Lib.splitK [58] 0 (Lib.count s [58]) s = spl s
  | [] => by
    rw [splitK_miss _ (by simp [Lib.index])]
    rfl
  | b :: l => by
    have ih := split_spl l
    by_cases h : b = 58
    · subst h
      rw [Lib.count_cons_eq, Nat.add_comm, splitK_hit _ 0 (by rw [Lib.index]; simp [List.isPrefixOf]), spl_c, ← ih]
      rfl
    · have hp : ([58] : List UInt8).isPrefixOf (b :: l) = false := by simp [List.isPrefixOf, Ne.symm h]
      have hix : Lib.index (b :: l) [58] = if Lib.index l [58] == -1 then -1 else Lib.index l [58] + 1 := by rw [Lib.index, hp]; simp
      rw [Lib.count_cons_ne b 58 l h]
      by_cases hm : Lib.index l [58] = -1
      · rw [splitK_miss _ hm] at ih
        rw [splitK_miss _ (by rw [hix, if_pos (beq_iff_eq.2 hm)]), spl_n h ih.symm]
      · have hge := Lib.index_ge l [58]
        obtain ⟨j, hj⟩ : ∃ j : Nat, Lib.index l [58] = j := ⟨(Lib.index l [58]).toNat, by omega⟩
        have hix' : Lib.index (b :: l) [58] = ((j + 1 : Nat) : Int) := by rw [hix, if_neg (fun e => hm (beq_iff_eq.1 e)), hj]; omega
        cases hk : Lib.count l [58] with
        | zero =>
          rw [hk, splitK_zero] at ih
          rw [splitK_zero, spl_n h ih.symm]
        | succ k =>
          rw [hk, splitK_hit _ j hj] at ih
          rw [splitK_hit _ (j + 1) hix', spl_n h ih.symm]
          rfl
theorem pieces_spl (s : List UInt8) : pieces s [58] = (spl s).map V.str := by
  unfold pieces
  have e : (fun b : ByteArray => V.str b.data.toList) = V.str ∘ (fun b : ByteArray => b.data.toList) := rfl
  rw [e, ← List.map_map, Lib.splitB_data, ← split_spl]
/-- a piece, read on from a number and how many digits it has -/
def rgP : List UInt8 → Int → Int → Option (Int × Int)
  | [], n, k => some (n, k)
  | c :: l, n, k => if vlB c.toNat = true then (if k = 4 then none else rgP l (n * 16 + vlN c.toNat) (k + 1)) else none
def pv (p : List UInt8) (n k : Int) : Option Int := match rgP p n k with
  | some (n', k') => if k' = 0 then none else some n'
  | none => none
def pvs : List (List UInt8) → Option (List V)
  | [] => some []
  | p :: ps => match pv p 0 0, pvs ps with
    | some n, some l => some (.int .i64 n :: l)
    | _, _ => none
def fin (r : Option (Int × Int × List V)) : Option (List V) := match r with
  | some (n, k, o) => some (if k > 0 then o ++ [.int .i64 n] else o)
  | none => none
def pvo (q : List (List UInt8)) (n k : Int) (o : List V) : Option (List V) := match q with
  | [] => none
  | p :: ps => match pv p n k, pvs ps with
    | some n', some l => some (o ++ .int .i64 n' :: l)
    | _, _ => none
theorem pv_none {c : UInt8} {p : List UInt8} {n k : Int} (h : ¬ vlB c.toNat = true) : pv (c :: p) n k = none := by
  unfold pv rgP; rw [if_neg h]
theorem pv_4 {c : UInt8} {p : List UInt8} {n : Int} : pv (c :: p) n 4 = none := by
  have e : rgP (c :: p) n 4 = none := by
    unfold rgP
    split
    · rw [if_pos rfl]
    · rfl
  unfold pv
  rw [e]
theorem pv_on {c : UInt8} {p : List UInt8} {n k : Int} (h : vlB c.toNat = true) (h4 : k ≠ 4) : pv (c :: p) n k = pv p (n * 16 + vlN c.toNat) (k + 1) := by
  conv => lhs; unfold pv rgP
  rw [if_pos h, if_neg h4]
  rfl
theorem pvo_pvs (q : List (List UInt8)) (h : ∃ p ps, q = p :: ps) (o : List V) : pvo q 0 0 o = (pvs q).map (o ++ ·) := by
  obtain ⟨p, ps, rfl⟩ := h
  have e : pvs (p :: ps) = match pv p 0 0, pvs ps with
    | some n, some l => some (.int .i64 n :: l)
    | _, _ => none := rfl
  rw [e]
  unfold pvo
  simp only
  cases pv p 0 0 with
  | none => rfl
  | some n =>
    cases pvs ps with
    | none => rfl
    | some l => rfl
theorem colon {c : UInt8} : (c.toNat : Int) = 58 ↔ c = 58 := by
  constructor
  · intro h
    have h : c.toNat = 58 := by omega
    exact UInt8.toNat_inj.1 h
  · rintro rfl; rfl
theorem rgE_spl : ∀ (l : List UInt8) (n k : Int) (o : List V), 0 ≤ k → (l ≠ [] ∨ k > 0) → fin (rgE l n k o) = pvo (spl l) n k o
  | [], n, k, o, h0, h => by
    have hk : k > 0 := by rcases h with h | h; exact absurd rfl h; exact h
    unfold rgE fin spl pvo pv rgP
    simp only
    rw [if_pos hk, if_neg (by omega)]
    rfl
  | c :: l, n, k, o, h0, _ => by
    unfold rgE
    by_cases hc : c = 58
    · rw [if_pos (colon.2 hc)]
      subst hc
      rw [spl_c]
      by_cases hk : k = 0
      · subst hk
        rw [if_pos rfl]
        rfl
      · rw [if_neg hk]
        by_cases hl : l = []
        · subst hl
          rw [if_pos rfl]
          have e2 : pvs (spl []) = none := rfl
          unfold pvo
          simp only
          rw [e2]
          cases pv [] n k <;> rfl
        · rw [if_neg hl, rgE_spl l 0 0 _ (Int.le_refl _) (.inl hl), pvo_pvs _ (spl_cons l)]
          unfold pvo pv rgP
          simp only
          rw [if_neg hk]
          cases pvs (spl l) with
          | none => rfl
          | some q => simp
    · rw [if_neg (fun e => hc (colon.1 e))]
      obtain ⟨p, ps, e⟩ := spl_cons l
      rw [spl_n hc e]
      unfold pvo
      simp only
      by_cases hv : vlB c.toNat = true
      · rw [if_pos hv]
        by_cases h4 : k = 4
        · subst h4
          rw [if_pos rfl, pv_4]
          rfl
        · rw [if_neg h4, rgE_spl l _ _ _ (by omega) (.inr (by omega)), e, pv_on hv h4]
          rfl
      · rw [if_neg hv, pv_none hv]
        rfl
theorem grS_eq {n v : Int} (h0 : 0 ≤ n) (h1 : n < 4096) (v0 : 0 ≤ v) (v1 : v ≤ 15) : grS n v = n * 16 + v := by
  unfold grS
  have e : wrap64 (n * 16) = n * 16 := by unfold wrap64; omega
  rw [e]
  exact or_i64 (n * 16) v 4 (by omega) (by omega) ⟨n, by omega⟩ (by omega) v0 (by omega)
theorem rgP_gr : ∀ (p : List UInt8) (n : Int) (k : Nat), 0 ≤ n → n < 16 ^ k → k ≤ 4 → rgP p n k = if p.length + k ≤ 4 then (grR p n).map (·, ((p.length + k : Nat) : Int)) else none
  | [], n, k, h0, h1, h4 => by
    rw [if_pos (by simpa using h4)]
    simp [rgP, grR]
  | c :: p, n, k, h0, h1, h4 => by
    unfold rgP
    conv => rhs; unfold grR
    by_cases hv : vlB c.toNat = true
    · rw [if_pos hv, if_pos hv]
      have hr := vl_rng hv
      by_cases hk : (k : Int) = 4
      · rw [if_pos hk, if_neg (by rw [List.length_cons]; omega)]
      · have hb : n < 4096 := by
          have : k = 0 ∨ k = 1 ∨ k = 2 ∨ k = 3 := by omega
          rcases this with rfl | rfl | rfl | rfl <;> simp at h1 <;> omega
        rw [if_neg hk, grS_eq h0 hb hr.1 hr.2]
        have := rgP_gr p (n * 16 + vlN c.toNat) (k + 1) (by omega) (by rw [Int.pow_succ]; omega) (by omega)
        rw [show ((k : Int) + 1) = ((k + 1 : Nat) : Int) by omega, this, List.length_cons, show p.length + (k + 1) = p.length + 1 + k by omega]
    · rw [if_neg hv, if_neg hv]
      split <;> rfl
theorem pv_gr (p : List UInt8) : pv p 0 0 = if grB p = true then some (grN p) else none := by
  unfold pv
  have := rgP_gr p 0 0 (Int.le_refl _) (by decide) (by omega)
  rw [show ((0 : Nat) : Int) = 0 from rfl] at this
  rw [this]
  unfold grB grN
  by_cases h : p.length + 0 ≤ 4
  · rw [if_pos h]
    cases grR p 0 with
    | none => rfl
    | some n =>
      simp only [Option.map_some, decide_eq_true_eq]
      by_cases h1 : p.length = 0
      · rw [if_pos (by omega), if_neg (by omega)]
      · rw [if_neg (by omega), if_pos (by omega)]
  · rw [if_neg h]
    cases grR p 0 with
    | none => rfl
    | some n =>
      simp only [decide_eq_true_eq]
      rw [if_neg (by omega)]
theorem pvs_gr : ∀ q : List (List UInt8), pvs q = if gkL (q.map V.str) = true then some (gnL (q.map V.str)) else none
  | [] => rfl
  | p :: ps => by
    unfold pvs
    rw [pv_gr, pvs_gr ps]
    have e : gkL ((p :: ps).map V.str) = (grB p && gkL (ps.map V.str)) := rfl
    have e2 : gnL ((p :: ps).map V.str) = .int .i64 (grN p) :: gnL (ps.map V.str) := rfl
    rw [e, e2]
    cases grB p with
    | false => rfl
    | true =>
      cases gkL (ps.map V.str) with
      | false => rfl
      | true => rfl
theorem rg_fin (s : List UInt8) : fin (rgE s 0 0 []) = if gsB s = true then some (gsL s) else none := by
  by_cases h : s = []
  · subst h; rfl
  · rw [rgE_spl s 0 0 [] (Int.le_refl _) (.inl h), pvo_pvs _ (spl_cons s), pvs_gr, ← pieces_spl]
    have e : gsB s = gkL (pieces s [58]) := by
      unfold gsB
      rw [show (s == []) = false by simpa using h]
      rfl
    have e2 : gkL (pieces s [58]) = true → gsL s = gnL (pieces s [58]) := by
      intro hg
      unfold gsL
      rw [if_neg h, if_pos hg]
    rw [e]
    by_cases hg : gkL (pieces s [58]) = true
    · rw [if_pos hg, if_pos hg, e2 hg]
      simp
    · rw [if_neg hg, if_neg hg]
      rfl
theorem rg_b (s : List UInt8) : rgK s = gsB s := by
  have h := rg_fin s
  unfold rgK
  cases hr : rgE s 0 0 [] with
  | none =>
    rw [hr] at h
    cases hg : gsB s with
    | false => rfl
    | true => rw [hg] at h; cases h
  | some r =>
    rw [hr] at h
    obtain ⟨n, k, o⟩ := r
    cases hg : gsB s with
    | true => rfl
    | false => rw [hg] at h; cases h
theorem rg_l (s : List UInt8) : rgL s = gsL s := by
  have h := rg_fin s
  unfold rgL
  cases hr : rgE s 0 0 [] with
  | none =>
    rw [hr] at h
    cases hg : gsB s with
    | false =>
      unfold gsB at hg
      unfold gsL
      simp at hg
      rw [if_neg hg.1, if_neg (by rw [hg.2]; decide)]
    | true => rw [hg] at h; cases h
  | some r =>
    rw [hr] at h
    obtain ⟨n, k, o⟩ := r
    cases hg : gsB s with
    | true => rw [hg] at h; exact Option.some.inj h
    | false => rw [hg] at h; cases h
/-! ### where two colons stand -/
theorem two_colons (a b : UInt8) (l : List UInt8) : ([58, 58] : List UInt8).isPrefixOf (a :: b :: l) = true ↔ (a.toNat : Int) = 58 ∧ (b.toNat : Int) = 58 := by
  rw [colon, colon]
  simp only [List.isPrefixOf, Bool.and_true, Bool.and_eq_true, beq_iff_eq]
  constructor
  · rintro ⟨h, h2⟩; exact ⟨h.symm, h2.symm⟩
  · rintro ⟨h, h2⟩; exact ⟨h.symm, h2.symm⟩
theorem rdF_index (s : List UInt8) : ∀ (k i : Nat), s.length - 1 - i = k → rdF s k i = if Lib.index (s.drop i) [58, 58] == -1 then -1 else Lib.index (s.drop i) [58, 58] + i
  | 0, i, h => by
    have e : Lib.index (s.drop i) [58, 58] = -1 := by
      cases hd : s.drop i with
      | nil => rfl
      | cons a l =>
        cases l with
        | nil => simp [Lib.index, List.isPrefixOf]
        | cons b l =>
          have := congrArg List.length hd
          simp only [List.length_drop, List.length_cons] at this
          omega
    rw [e]
    rfl
  | k + 1, i, h => by
    have h1 : i < s.length := by omega
    have h2 : i + 1 < s.length := by omega
    have ih := rdF_index s k (i + 1) (by omega)
    have e1 := drop_gt h1
    have e2 := drop_gt h2
    unfold rdF
    rw [gt_at h1, gt_at h2, ih]
    generalize s[i]'h1 = a at e1
    generalize hb : s[i + 1]'h2 = b at e2
    have hix : Lib.index (s.drop i) [58, 58] = if ([58, 58] : List UInt8).isPrefixOf (a :: s.drop (i + 1)) = true then 0 else if Lib.index (s.drop (i + 1)) [58, 58] == -1 then -1 else Lib.index (s.drop (i + 1)) [58, 58] + 1 := by
      rw [e1]
      rfl
    rw [hix]
    by_cases hc : (a.toNat : Int) = 58 ∧ (b.toNat : Int) = 58
    · have hpre : ([58, 58] : List UInt8).isPrefixOf (a :: s.drop (i + 1)) = true := by rw [e2]; exact (two_colons a b _).2 hc
      rw [if_pos hc, hpre]
      simp
    · have hpre : ([58, 58] : List UInt8).isPrefixOf (a :: s.drop (i + 1)) = false := by
        rw [e2, Bool.eq_false_iff]; exact fun e => hc ((two_colons a b _).1 e)
      rw [if_neg hc, hpre]
      simp only [Bool.false_eq_true, if_false]
      have hge := Lib.index_ge (s.drop (i + 1)) [58, 58]
      by_cases hm : Lib.index (s.drop (i + 1)) [58, 58] = -1
      · rw [hm]; rfl
      · have b1 : (Lib.index (s.drop (i + 1)) [58, 58] == -1) = false := by simpa using hm
        rw [b1]
        have b2 : (Lib.index (s.drop (i + 1)) [58, 58] + 1 == -1) = false := by simp; omega
        simp only [Bool.false_eq_true, if_false]
        rw [b2]
        simp only [Bool.false_eq_true, if_false]
        omega
theorem rdAt_index (s : List UInt8) : rdAt s = Lib.index s [58, 58] := by
  unfold rdAt
  rw [rdF_index s _ 0 rfl, List.drop_zero]
  split
  · rename_i h
    exact (beq_iff_eq.1 h).symm
  · omega
theorem cut3_at (s : List UInt8) : cut3 s [58, 58] = decide (0 ≤ rdAt s) := by
  rw [rdAt_index]
  unfold cut3 Lib.cut
  split
  · rename_i h; exact (decide_eq_true h).symm
  · rename_i h; exact (decide_eq_false h).symm
theorem cut_no (s : List UInt8) (h : rdAt s < 0) : cut1 s [58, 58] = s ∧ cut2 s [58, 58] = [] := by
  rw [rdAt_index] at h
  unfold cut1 cut2 Lib.cut
  rw [if_neg (by omega)]
  exact ⟨rfl, rfl⟩
theorem cut_yes (s : List UInt8) (hs : s.length ≤ 900) (h : 0 ≤ rdAt s) : cut1 s [58, 58] = rdA s ∧ cut2 s [58, 58] = rdB s := by
  have hr := rdAt_rng s
  have e := rdAt_index s
  unfold rdA rdB cutL
  rw [w64 (x := rdAt s + 2) (by omega) (by omega), List.drop_zero, Nat.sub_zero]
  unfold cut1 cut2 Lib.cut
  rw [← e, if_pos h]
  refine ⟨rfl, ?_⟩
  show s.drop ((rdAt s).toNat + 2) = (s.drop (rdAt s + 2).toNat).take (s.length - (rdAt s + 2).toNat)
  rw [List.take_of_length_le (by rw [List.length_drop]; omega)]
  congr 1
  omega
/-! ### the numbers, with zeros between -/
theorem cpF_eq (l : List V) (hl : ∀ j, j < l.length → eta (.int .i64) (l.getD j .undef) = l.getD j .undef) : ∀ k j w, k + j = l.length → l.length ≤ w.length → cpF l k j w = w.take j ++ (l.drop j ++ w.drop l.length)
  | 0, j, w, h, hw => by
    show w = _
    rw [List.drop_of_length_le (by omega), show l.length = j by omega, List.nil_append, List.take_append_drop]
  | k + 1, j, w, h, hw => by
    show cpF l k (j + 1) _ = _
    have hj : j < l.length := by omega
    rw [cpF_eq l hl k (j + 1) _ (by omega) (by rw [List.length_set]; exact hw), hl j hj, drop_next (d := .undef) hj]
    have e1 : (w.set j (l.getD j .undef)).take (j + 1) = w.take j ++ [l.getD j .undef] := by
      rw [List.take_add_one, List.take_set, List.getElem?_set, if_pos rfl, if_pos (by omega), List.set_eq_of_length_le (by rw [List.length_take]; omega)]
      rfl
    have e2 : (w.set j (l.getD j .undef)).drop l.length = w.drop l.length := by
      rw [List.drop_set, if_pos hj]
    rw [e1, e2]
    simp
theorem cpG_eq (m : List V) (hm : ∀ j, j < m.length → eta (.int .i64) (m.getD j .undef) = m.getD j .undef) : ∀ k j w, k + j = m.length → w.length = 8 → m.length ≤ 8 → cpG m k j w = w.take (8 - m.length + j) ++ m.drop j
  | 0, j, w, h, hw, h8 => by
    show w = _
    rw [List.drop_of_length_le (by omega), List.append_nil, List.take_of_length_le (by omega)]
  | k + 1, j, w, h, hw, h8 => by
    show cpG m k (j + 1) _ = _
    have hj : j < m.length := by omega
    rw [cpG_eq m hm k (j + 1) _ (by omega) (by rw [List.length_set]; exact hw) h8, hm j hj, drop_next (d := .undef) hj]
    have e1 : (w.set (8 - m.length + j) (m.getD j .undef)).take (8 - m.length + (j + 1)) = w.take (8 - m.length + j) ++ [m.getD j .undef] := by
      rw [← Nat.add_assoc, List.take_add_one, List.take_set, List.getElem?_set, if_pos rfl, if_pos (by omega), List.set_eq_of_length_le (by rw [List.length_take]; omega)]
      rfl
    rw [e1]
    simp
theorem gs_eta (s : List UInt8) (j : Nat) (h : j < (gsL s).length) : eta (.int .i64) ((gsL s).getD j .undef) = (gsL s).getD j .undef := by
  rw [List.getD_eq_getElem?_getD, List.getElem?_eq_getElem h]
  have hm : (gsL s)[j] ∈ gsL s := List.getElem_mem h
  generalize (gsL s)[j] = v at hm
  unfold gsL at hm
  split at hm
  · cases hm
  · split at hm
    · unfold gnL at hm
      obtain ⟨x, _, rfl⟩ := List.mem_map.1 hm
      rfl
    · cases hm
/-- numbers, zeros, numbers -/
def adW (l m : List V) : List V := l ++ (List.replicate (8 - (l.length + m.length)) (.int .i64 0) ++ m)
theorem rdW_eq (s : List UInt8) (h : (rgL (rdA s)).length + (rgL (rdB s)).length ≤ 7) : rdW s = adW (gsL (rdA s)) (gsL (rdB s)) := by
  unfold rdW rdV
  rw [rg_l, rg_l] at h ⊢
  have hz : rdZ.length = 8 := rfl
  rw [cpF_eq _ (gs_eta _) _ 0 _ (by omega) (by omega), List.take_zero, List.nil_append, List.drop_zero]
  rw [cpG_eq _ (gs_eta _) _ 0 _ (by omega) (by rw [List.length_append, List.length_drop]; omega) (by omega), List.drop_zero, Nat.add_zero]
  unfold adW rdZ
  rw [List.take_append, List.take_of_length_le (by omega), List.append_assoc, List.drop_replicate, List.take_replicate]
  congr 3
  omega
end Go.Proofs.YtbgfpemjdomanaaDoor

namespace Go.Proofs.YtbgfpemjdomanaaDoor
open Go Go.Am Go.RowKit Go.Mix Go.Bas
set_option maxRecDepth 100000
/-! ### where two colons stand -/
end Go.Proofs.YtbgfpemjdomanaaDoor
