/- The abstract machine, twelfth part: rows that are made, grown, written. -/
import Derived.Test.YthbllfhaaidhjaaAmk
namespace Go.Am
open Go Go.RowKit Go.Bas
section
variable {ι : Nat → Option Cn} {O : Nat → Prop} {w0 : Zone} {w : World} {hp : Nat → Option Blk} {P : Program}
theorem elOf_spec {t : TypeId} {sh : Sh} {T b : Nat} (h : elOf P t sh = some (T, b)) : ∃ i z, P.underlying t = some (.slice T) ∧ P.info? T = some i ∧ i.zero = some z ∧ i.size = sh.size ∧ z.cells.size = sh.size ∧ 0 < sh.size ∧ i.bytes = b ∧ 0 < b := by
  unfold elOf at h
  split at h
  · rename_i e hu
    split at h
    · rename_i i hi
      split at h
      · rename_i z hz
        obtain ⟨h1, h2⟩ := ofBif h
        injection h2 with h2; injection h2 with e1 e2; subst e1
        simp only [Bool.and_eq_true] at h1
        obtain ⟨⟨⟨a, b⟩, c⟩, d⟩ := h1
        have a' := Nat.eq_of_beq_eq_true a
        have b' := Nat.eq_of_beq_eq_true b
        have c' : 0 < i.size := Nat.le_of_ble_eq_true c
        have d' : 0 < i.bytes := Nat.le_of_ble_eq_true d
        exact ⟨i, z, hu, hi, hz, a', b', by omega, e2, by omega⟩
      · cases h
    · cases h
  · cases h
/-- what is appended: cells that lie somewhere -/
structure Src (w : World) (m sz : Nat) (c : Value) (news : List Value) : Prop where
  form : ∃ A k, c = .slice A m k
  len : news.length = m * sz
  one : ∀ u ∈ news, u.oneCell' = true
  at_ : 0 < m → ∃ a k, c = .slice (some a) m k ∧ ∀ j u, news[j]? = some u → w.cell? (a.add j) = some u
theorem RowC.ones {X : Nat → Prop} {n : Nat} {e : Sh} {v : V} {ds : List Value} (h : RowC ι X w n e v ds) : ∀ u ∈ ds, u.oneCell' = true := by
  cases h with
  | bytes => exact bv_one _
  | rows he hr => exact CReps.ones_of (fun a b => CRep.ones a b) hr he
/-- the content of what is appended -/
theorem src_rep (h : HSim ι O w0 hp w) {x v : V} {c : Value} (hx : VRep ι (Ex1 ι hp O) w x c) (hs : sliceC hp x = some v) (hstr : ∀ l, x ≠ .str l) (hsz : 0 < (elSh v).size) :
    ∃ n ds, RowC ι (Ex1 ι hp O) w n (elSh v) v ds ∧ Src w n (elSh v).size c ds := by
  unfold sliceC at hs
  split at hs
  · injection hs with hs; subst hs
    cases hx.nils_inv
    exact ⟨0, [], .bytes (l := []), ⟨⟨_, _, rfl⟩, by simp, by simp, fun h => absurd h (by omega)⟩⟩
  · injection hs with hs; subst hs
    cases hx with
    | agg _ ha => cases ha
    | one hx _ =>
      obtain ⟨A, n, k, hc⟩ : ∃ A n k, c = .slice A n k := by cases hx; exact ⟨_, _, _, rfl⟩
      subst hc
      obtain ⟨ds, h1, h2⟩ := view_row hx rfl rfl
      refine ⟨n, ds, h1, ⟨⟨_, _, rfl⟩, h1.len, h1.ones, fun h0 => ?_⟩⟩
      obtain ⟨b, off, rfl, _, _, h3⟩ := h2 h0
      exact ⟨_, _, rfl, fun j u hj => by rw [add_lit0]; exact h3 j u hj⟩
  · injection hs with hs; subst hs
    cases hx with
    | agg _ ha => cases ha
    | one hx _ =>
      obtain ⟨A, n, k, hc⟩ : ∃ A n k, c = .slice A n k := by cases hx; exact ⟨_, _, _, rfl⟩
      subst hc
      obtain ⟨ds, h1, h2⟩ := view_row hx rfl rfl
      refine ⟨n, ds, h1, ⟨⟨_, _, rfl⟩, h1.len, h1.ones, fun h0 => ?_⟩⟩
      obtain ⟨b, off, rfl, _, _, h3⟩ := h2 h0
      exact ⟨_, _, rfl, fun j u hj => by rw [add_lit0]; exact h3 j u hj⟩
  · exact absurd rfl (hstr _)
  · obtain ⟨k, hk, rfl⟩ := Option.map_eq_some_iff.1 hs
    obtain ⟨A, c', T, rfl, hi, hA⟩ := hx.own_inv
    rename_i n sh
    rcases own_cont h hi hk with ⟨ds, h1, h2, h3⟩ | ⟨h1, h2, h3, _⟩
    · have he := h1.elSh
      rw [he]
      refine ⟨n, ds, h1, ⟨⟨_, _, rfl⟩, h1.len, h1.ones, fun h0 => ?_⟩⟩
      obtain ⟨g, rfl⟩ := hA h0
      exact ⟨_, _, rfl, fun j u hj => by rw [add_lit0, Nat.zero_add]; exact row_cell h2 hj⟩
    · obtain ⟨ds, q1, q2⟩ := view_row h1 rfl h2
      refine ⟨n, ds, q1, ⟨⟨_, _, rfl⟩, q1.len, q1.ones, fun h0 => ?_⟩⟩
      obtain ⟨b, off, rfl, _, _, q3⟩ := q2 h0
      exact ⟨_, _, rfl, fun j u hj => by rw [add_lit0]; exact q3 j u hj⟩
  · cases hs
theorem run_append_g {base : Nat} {t ty T : TypeId} {sh : Sh} {b : Nat} (he : elOf P t sh = some (T, b)) {A : Option Addr} {n c m : Nat} {xs news : List Value} {d : Value} (ho : w.ownsRow base T sh.size (.slice A n c) n xs) (hs : Src w m sh.size d news)
    (hb : (n + m) * b ≤ 140737488355328) (hbase : base ≤ w.heap.size) :
    ∃ A' c' w', (Builtin.append_ #[t, t] ty #[.slice A n c, d]).run P w = .ok (.slice A' (n + m) c') w' ∧ w'.ownsRow base T sh.size (.slice A' (n + m) c') (n + m) (xs ++ news) ∧ w.grownBy w' (Value.slice A n c).ownBlock ∧
      (∀ a, A' = some a → A.map (·.block) = some a.block ∨ a.block = w.heap.size) := by
  obtain ⟨i, z, hu, hi, hz, h1, h2, h3, h4, h5⟩ := elOf_spec he
  rcases Nat.eq_zero_or_pos m with h0 | h0
  · subst h0
    have hn : news = [] := List.eq_nil_of_length_eq_zero (by rw [hs.len, Nat.zero_mul])
    subst hn
    obtain ⟨A2, k2, rfl⟩ := hs.form
    refine ⟨A, c, w, ?_, by simpa using ho, ⟨rfl, rfl, rfl, Nat.le_refl _, fun _ _ _ => rfl⟩, fun a ha => .inl (by rw [ha]; rfl)⟩
    have hnc : n ≤ c := by
      rcases ho.2 with ⟨e, h0⟩ | ⟨g, cap, cur, e, _, _, hn, _⟩
      · omega
      · injection e with _ _ e3; omega
    have hmA : A.isSome = true ∨ A = none := by cases A <;> simp
    cases A <;> cases A2 <;> simp [Builtin.append_, run_underlying hu, sizeOf, typeInfo, hi, Builtin.lenOf, Builtin.firstCells, loadCells, loadCellsFrom, hnc, storeCells]
  · obtain ⟨a, k, rfl, hc⟩ := hs.at_ h0
    have hbb : (n + m) * 1 ≤ (n + m) * b := Nat.mul_le_mul_left _ h5
    obtain ⟨v', w', hrun, q3, q4, q5, q6⟩ := run_append_own_at (P := P) w base t ty T i z sh.size b hu hi hz h1 h4 h2 h3 _ _ _ ho a m k news hs.len hc hs.one (by unfold maxLen; omega) hb hbase
    have hform := q3.2
    rcases hform with ⟨_, e2⟩ | ⟨g, cap, cur, e1, r⟩
    · omega
    · subst e1
      refine ⟨_, _, w', hrun, q3, q4, fun a' ha' => ?_⟩
      injection ha' with ha'
      subst ha'
      simp only [Value.ownBlock] at q6
      rcases q6 with q6 | q6
      · left
        cases A with
        | none => simp at q6
        | some a0 => simp at q6 ⊢; exact q6.symm
      · right; injection q6
theorem row_ne_str {y : V} (h : isSl y = true) : ∀ l, y ≠ .str l := by rintro l rfl; cases h
theorem op_append (h : HSim ι O w0 hp w) {nid : Nat} (hn : ι nid = none) {t ty : TypeId} {x y z : V} {c d : Value} {T b : Nat} (hx : VRep ι (Ex1 ι hp O) w x c) (hy : VRep ι (Ex1 ι hp O) w y d) (hz : appV hp x y = some z) (he : elOf P t (elSh z) = some (T, b))
    (hok : appOk hp T x = true) (hsl : isSl y = true) (hb : lenC z * b ≤ 140737488355328) :
    ∃ e w', (Builtin.append_ #[t, t] ty #[c, d]).run P w = .ok e w' ∧ Post ι O w0 hp w nid (.own nid (lenC z) (elSh z)) ((ids x).map (fun i => (i, none)) ++ [(nid, some (.row T (elSh z) z))]) w' e := by
  obtain ⟨inf, zz, _, _, _, _, _, hpos, _, _⟩ := elOf_spec he
  unfold appV at hz
  cases hq : sliceC hp y with
  | none => rw [hq] at hz; cases hz
  | some bb =>
    simp only [hq] at hz
    -- the row that grows, and what it reads as then
    have key : ∃ A n k m xs news, c = .slice A n k ∧ w.ownsRow 0 T (elSh z).size (.slice A n k) n xs ∧ Src w m (elSh z).size d news ∧ RowC ι (Ex1 ι hp O) w (n + m) (elSh z) z (xs ++ news) ∧
        (∀ a, A = some a → ∃ id, id ∈ ids x ∧ Mine ι hp id a.block) := by
      split at hz
      · injection hz with hz; subst hz
        cases hx.nils_inv
        obtain ⟨m, ds, r1, r2⟩ := src_rep h hy hq (row_ne_str hsl) hpos
        refine ⟨none, 0, 0, m, [], ds, rfl, World.ownsRow_nil w _ _ _, r2, ?_, fun a ha => by cases ha⟩
        rw [Nat.zero_add]; exact r1
      · rename_i id n sh
        split at hz
        · rename_i T' sh' a hk
          obtain ⟨A, k, T0, rfl, hi, hA⟩ := hx.own_inv
          have hT : T = T' := by
            simp only [appOk, hk] at hok
            exact Nat.eq_of_beq_eq_true hok
          subst hT
          cases h.blk id _ hk with
          | row h1 h2 h3 =>
            rw [hi] at h1; injection h1 with h1; injection h1 with e1 e2 e3 e4 e5
            subst e1; subst e2; subst e3; subst e4; subst e5
            rename_i xs
            have hm : ∀ a', A = some a' → ∃ i, i ∈ ids (.own id n sh) ∧ Mine ι hp i a'.block := by
              intro a' ha'
              subst ha'
              exact ⟨id, by simp [ids], _, _, hk, rfl, hi, rfl⟩
            unfold appC at hz
            split at hz
            · injection hz with hz; subst hz
              rename_i p q
              cases h2 with
              | bytes =>
                obtain ⟨m, ds, r1, r2⟩ := src_rep h hy hq (row_ne_str hsl) hpos
                cases r1 with
                | bytes =>
                  refine ⟨A, _, k, _, _, _, rfl, h3, r2, ?_, hm⟩
                  rw [← List.map_append, ← List.length_append]
                  exact .bytes
            · rename_i e p f q
              obtain ⟨hbe, hz⟩ := ofBif hz
              injection hz with hz; subst hz
              have := Sh.beq_eq hbe
              subst this
              cases h2 with
              | rows g1 g2 =>
                obtain ⟨m, ds, r1, r2⟩ := src_rep h hy hq (row_ne_str hsl) hpos
                cases r1 with
                | rows g3 g4 =>
                  refine ⟨A, _, k, _, _, _, rfl, h3, r2, ?_, hm⟩
                  rw [← List.length_append]
                  exact .rows (fun u hu => (List.mem_append.1 hu).elim (g1 u) (g3 u)) (g2.append g4)
            · injection hz with hz; subst hz
              rename_i e p
              cases h2 with
              | rows g1 g2 =>
                obtain ⟨m, ds, r1, r2⟩ := src_rep h hy hq (row_ne_str hsl) (by decide)
                cases r1 with
                | bytes =>
                  obtain ⟨A2, k2, rfl⟩ := r2.form
                  refine ⟨A, _, k, 0, _, [], rfl, h3, ⟨⟨_, _, rfl⟩, by simp, by simp, fun h => absurd h (by omega)⟩, ?_, hm⟩
                  rw [List.append_nil]
                  exact .rows g1 g2
            · cases hz
        · cases hz
      · cases hz
    obtain ⟨A, n, k, m, xs, news, rfl, k1, k2, k3, k4⟩ := key
    have hlen := k3.lenC
    rw [hlen] at hb
    obtain ⟨A', c', w', hrun, q1, q2, q3⟩ := run_append_g (ty := ty) he k1 k2 hb (Nat.zero_le _)
    have hbelow : Keeps w0.old w w' := ⟨q2.os, q2.tape, q2.output, q2.size, fun g hg => q2.block g (h.lt hg) (by
      cases A with
      | none => simp [Value.ownBlock]
      | some a =>
        simp only [Value.ownBlock]
        intro e
        injection e with e
        subst e
        obtain ⟨id, hid, hm⟩ := k4 a rfl
        exact (h.fresh id _ hm).1 hg)⟩
    obtain ⟨a1, a2, a3⟩ := h.newRow (w' := w') (nid := nid) hn (ids x) T (elSh z) z (A := A') (n := n + m) (c := c') (ds := xs ++ news) hbelow (fun g hlt hnm => q2.block g hlt (by
        cases A with
        | none => simp [Value.ownBlock]
        | some a =>
          simp only [Value.ownBlock]
          intro e
          injection e with e
          subst e
          obtain ⟨id, hid, hm⟩ := k4 a rfl
          exact hnm id hid hm)) (fun a ha => by
        rcases q3 a ha with hq | hq
        · cases A with
          | none => cases hq
          | some a0 =>
            have hq : a0.block = a.block := by simpa using hq
            obtain ⟨id, hid, hm⟩ := k4 a0 rfl
            rw [hq] at hm
            exact .inl ⟨id, hid, hm⟩
        · exact .inr (by omega)) q1
    refine ⟨_, w', hrun, updI ι nid (.row A' (n + m) c' T (elSh z)), a3 (k3.ext a1), a1, ?_, fun id hid => ?_⟩
    · rw [hlen]
      exact .one (.own updI_self fun h0 => (own_form q1).elim id fun e => absurd e.2.1 (by omega)) rfl
    · unfold updI; rw [if_neg hid]

/-! ### stores into rows -/
theorem setP_get : ∀ (p : List Step) {v y v' : V}, setP v p y = some v' → ∃ x, getP v p = some x
  | [], v, y, v', h => ⟨v, by cases v <;> rfl⟩
  | .fld j :: p, v, y, v', h => by
    cases v with
    | agg l =>
      simp only [setP] at h
      cases hq : nthL l j with
      | none => rw [hq] at h; cases h
      | some u =>
        simp only [hq] at h
        cases hs : setP u p y with
        | none => rw [hs] at h; cases h
        | some z => obtain ⟨x, hx⟩ := setP_get p hs; exact ⟨x, by simp only [getP, hq, hx]⟩
    | _ => simp [setP] at h
  | .idx i :: p, v, y, v', h => by
    cases v with
    | barr n l => cases p with
      | nil => exact ⟨_, rfl⟩
      | cons => simp [setP] at h
    | bytes l => cases p with
      | nil => exact ⟨_, rfl⟩
      | cons => simp [setP] at h
    | arr e n l =>
      simp only [setP] at h
      cases hs : setP (eta e (l.getD i .undef)) p y with
      | none => rw [hs] at h; cases h
      | some z => obtain ⟨x, hx⟩ := setP_get p hs; exact ⟨x, by simpa only [getP] using hx⟩
    | rows e l =>
      simp only [setP] at h
      cases hs : setP (eta e (l.getD i .undef)) p y with
      | none => rw [hs] at h; cases h
      | some z => obtain ⟨x, hx⟩ := setP_get p hs; exact ⟨x, by simpa only [getP] using hx⟩
    | _ => simp [setP] at h
theorem ownsRow_set {base g n c off : Nat} {T : TypeId} {size : Nat} {pre cs post zs : List Value} (h : w.ownsRow base T size (.slice (some ⟨g, 0, none⟩) n c) n (pre ++ (cs ++ post))) (h1 : pre.length = off) (h2 : zs.length = cs.length) :
    (∃ cur, Bas.Blk w g T cur ∧ off + zs.length ≤ cur.length) ∧ (w.setCells g off zs).ownsRow base T size (.slice (some ⟨g, 0, none⟩) n c) n (pre ++ (zs ++ post)) := by
  have hl := h.1
  rcases h.2 with ⟨e, _⟩ | ⟨g', cap, cur, e, hb, hg, hn, hm, hs, ht⟩
  · cases e
  · injection e with e1 e2 e3
    injection e1 with e1; injection e1 with e1
    subst e1; subst e3
    have hblk : Bas.Blk w g T cur.toList := by unfold Bas.Blk; simpa using hg
    have hle : n * size ≤ cur.toList.length := by rw [Array.length_toList, hs]; exact Nat.mul_le_mul_right _ hn
    have hfit : off + zs.length ≤ n * size := by rw [← hl]; simp only [List.length_append]; omega
    refine ⟨⟨cur.toList, hblk, by omega⟩, by simp only [List.length_append] at hl ⊢; omega, .inr ⟨g, c, (cur.toList.take off ++ (zs ++ cur.toList.drop (off + zs.length))).toArray, rfl, hb, ?_, hn, hm, ?_, ?_⟩⟩
    · have := Bas.Blk.sets zs off hblk (by omega)
      exact this
    · rw [List.size_toArray]; simp only [List.length_append, List.length_take, List.length_drop, Array.length_toList] at *; omega
    · have := splice_take cur.toList zs off (n * size) hfit hle
      rw [List.toList_toArray, this, ht, ← h1, List.take_left, h2, List.drop_append, List.drop_of_length_le (by omega), show pre.length + cs.length - pre.length = cs.length by omega, List.drop_left, List.nil_append]
theorem op_store_row (h : HSim ι O w0 hp w) {id : Nat} {T : TypeId} {s0 sh : Sh} {v v' y z : V} {p : List Step} {off : Nat} {t : TypeId} {c d : Value} (hk : hp id = some (.row T s0 v))
    (hx : VRep ι (Ex1 ι hp O) w (.ref id p off sh) c) (hy : VRep ι (Ex1 ι hp O) w y d) (hlow : low hp sh y = some z) (hs : setP v p z = some v') (hl : ldOk P t sh = true) (hsh : isR sh z = true) (hni : (ids y).contains id = false) :
    ∃ w', (Instr.storeAt t c d).run P w = .ok () w' ∧ ∀ nid, Post ι O w0 hp w nid .void ((id, some (.row T s0 v')) :: sealB hp (ids y)) w' Go.undef := by
  obtain ⟨g, rfl, hr⟩ := hx.ref_inv
  obtain ⟨x, hg⟩ := setP_get p hs
  obtain ⟨h1, hx1⟩ := h.seals (ids y)
  have hk1 : updH (sealB hp (ids y)) hp id = some (.row T s0 v) := by
    rw [seal_at, if_neg (by simpa using hni)]; exact hk
  have hzv := low_repV h hx1 hlow (Lent.seal h _) hy
  have hz0 := hzv.cells (isR_isSh hsh)
  have hz : CRep ι (Ex1 ι (updH (sealB hp (ids y)) hp) O) w z d.cells.toList := CRep.any hsh hz0
  have hzl := CRep.len (isR_isSh hsh) hz
  have hld := (ldOk_spec hl).1
  cases h1.blk id _ hk1 with
  | row hi hc ho =>
    rename_i A n k ds
    rcases hr with ⟨s1, e1, _⟩ | ⟨n', c', T', e, e1, ha, hp⟩
    · rw [hi] at e1; cases e1
    · rw [hi] at e1; injection e1 with e1; injection e1 with q1 q2 q3 q4 q5
      subst q1; subst q2; subst q3; subst q4; subst q5
      obtain ⟨pre, cs, post, rfl, k1, k2, k3, k4, k5⟩ := row_rep ha hp hc hg
      have m1 := k5 z _ v' (isR_isSh hsh) hz hs
      obtain ⟨⟨cur, hb, hlen⟩, hor⟩ := ownsRow_set (zs := d.cells.toList) ho k1 (by omega)
      refine ⟨_, run_store_g hb rfl (by rw [hld, hzl]) hlen (CRep.ones (isR_isSh hsh) hz), fun nid => ?_⟩
      have hm : Mine ι (updH (sealB _ (ids y)) _) id g := ⟨_, _, hk1, rfl, hi, rfl⟩
      have hf := h1.fresh id g hm
      obtain ⟨he, hw⟩ := h1.write (k' := .row T s0 v') hk1 rfl (keeps_setCells hf.1 _ off w) (size_setCells _ off w) (w' := w.setCells g off d.cells.toList) (fun b _ hnm => heap_setCells _ off w fun e => hnm (e ▸ hm))
      have hH := hw (.row hi (m1.ext he) hor)
      refine ⟨ι, ?_, ?_, .void, fun _ _ => rfl⟩
      · rw [updH_cons]; exact hH
      · rw [updH_cons]; exact hx1.trans he
end
end Go.Am
