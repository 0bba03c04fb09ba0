/- Part Gc of the proof: laws used by the law of this claim. -/
import Derived.ScopeJumps
import Derived.Test.YtfhljcbbgckdiaaGreatGb
set_option linter.all false
namespace Go.Am
open Go Go.RowKit Go.Bas
section
variable {ι : Nat → Option Cn} {O : Nat → Prop} {w0 : Zone} {w : World} {hp : Nat → Option Blk} {P : Program}
theorem elOf_spec {t : TypeId} {sh : Sh} {T b : Nat} (h : elOf P t sh = some (T, b)) : ∃ i z, P.underlying t = some (.slice T) ∧ P.info? T = some i ∧ i.zero = some z ∧ i.size = sh.size ∧ z.cells.size = sh.size ∧ 0 < sh.size ∧ i.bytes = b ∧ 0 < b := by
 unfold elOf at h
 split at h
 ·rename_i e hu
  split at h
  ·rename_i i hi
   split at h
   ·rename_i z hz
    obtain ⟨h1, h2⟩ := ofBif h
    injection h2 with h2; injection h2 with e1 e2; subst e1
    simp only [Bool.and_eq_true] at h1
    obtain ⟨⟨⟨a, b⟩, c⟩, d⟩ := h1
    have a' := Nat.eq_of_beq_eq_true a
    have b' := Nat.eq_of_beq_eq_true b
    have c' : 0 < i.size := Nat.le_of_ble_eq_true c
    have d' : 0 < i.bytes := Nat.le_of_ble_eq_true d
    exact ⟨i, z, hu, hi, hz, a', b', by omega, e2, by omega⟩
   ·cases h
  ·cases h
 ·cases h
structure Src (w : World) (m sz : Nat) (c : Value) (news : List Value) : Prop where
 form : ∃ A k, c = .slice A m k
 len : news.length = m * sz
 one : ∀ u ∈ news, u.oneCell' = true
 at_ : 0 < m → ∃ a k, c = .slice (some a) m k ∧ ∀ j u, news[j]? = some u → w.cell? (a.add j) = some u
theorem RowC.ones {X : Nat → Prop} {n : Nat} {e : Sh} {v : V} {ds : List Value} (h : RowC ι X w n e v ds) : ∀ u ∈ ds, u.oneCell' = true := by
 cases h with
 | bytes => exact bv_one _
 | rows he hr => exact CReps.ones_of (fun a b => CRep.ones a b) hr he
theorem src_rep (h : HSim ι O w0 hp w) {x v : V} {c : Value} (hx : VRep ι (Ex1 ι hp O) w x c) (hs : sliceC hp x = some v) (hstr : ∀ l, x ≠ .str l) (hsz : 0 < (elSh v).size) :
  ∃ n ds, RowC ι (Ex1 ι hp O) w n (elSh v) v ds ∧ Src w n (elSh v).size c ds := by
 unfold sliceC at hs
 split at hs
 ·injection hs with hs; subst hs
  cases hx.nils_inv
  exact ⟨0, [], .bytes (l := []), ⟨⟨_, _, rfl⟩, by simp, by simp, fun h => absurd h (by omega)⟩⟩
 ·injection hs with hs; subst hs
  cases hx with
  | agg _ ha => cases ha
  | one hx _ =>
   obtain ⟨A, n, k, hc⟩ : ∃ A n k, c = .slice A n k := by cases hx; exact ⟨_, _, _, rfl⟩
   subst hc
   obtain ⟨ds, h1, h2⟩ := view_row hx rfl rfl
   refine ⟨n, ds, h1, ⟨⟨_, _, rfl⟩, h1.len, h1.ones, fun h0 => ?_⟩⟩
   obtain ⟨b, off, rfl, _, _, h3⟩ := h2 h0
   exact ⟨_, _, rfl, fun j u hj => by rw [add_lit0]; exact h3 j u hj⟩
 ·injection hs with hs; subst hs
  cases hx with
  | agg _ ha => cases ha
  | one hx _ =>
   obtain ⟨A, n, k, hc⟩ : ∃ A n k, c = .slice A n k := by cases hx; exact ⟨_, _, _, rfl⟩
   subst hc
   obtain ⟨ds, h1, h2⟩ := view_row hx rfl rfl
   refine ⟨n, ds, h1, ⟨⟨_, _, rfl⟩, h1.len, h1.ones, fun h0 => ?_⟩⟩
   obtain ⟨b, off, rfl, _, _, h3⟩ := h2 h0
   exact ⟨_, _, rfl, fun j u hj => by rw [add_lit0]; exact h3 j u hj⟩
 ·exact absurd rfl (hstr _)
 ·obtain ⟨k, hk, rfl⟩ := Option.map_eq_some_iff.1 hs
  obtain ⟨A, c', T, rfl, hi, hA⟩ := hx.own_inv
  rename_i n sh
  rcases own_cont h hi hk with ⟨ds, h1, h2, h3⟩ | ⟨h1, h2, h3, _⟩
  ·have he := h1.elSh
   rw [he]
   refine ⟨n, ds, h1, ⟨⟨_, _, rfl⟩, h1.len, h1.ones, fun h0 => ?_⟩⟩
   obtain ⟨g, rfl⟩ := hA h0
   exact ⟨_, _, rfl, fun j u hj => by rw [add_lit0, Nat.zero_add]; exact row_cell h2 hj⟩
  ·obtain ⟨ds, q1, q2⟩ := view_row h1 rfl h2
   refine ⟨n, ds, q1, ⟨⟨_, _, rfl⟩, q1.len, q1.ones, fun h0 => ?_⟩⟩
   obtain ⟨b, off, rfl, _, _, q3⟩ := q2 h0
   exact ⟨_, _, rfl, fun j u hj => by rw [add_lit0]; exact q3 j u hj⟩
 ·rename_i id p off lo n c0 sh
  obtain ⟨k, hk, hs⟩ := Option.bind_eq_some_iff.1 hs
  obtain ⟨A, kk, rfl, h1, h2, hw⟩ := hx.win_inv
  rcases Nat.eq_zero_or_pos n with h0 | h0
  ·subst h0
   obtain ⟨y, _, hc⟩ := winC_cut hs
   rcases cut_zero hc with rfl | ⟨e, rfl⟩
   ·exact ⟨0, [], .bytes (l := []), ⟨⟨_, _, rfl⟩, by simp, by simp, fun h => absurd h (by omega)⟩⟩
   ·exact ⟨0, [], .rows (l := []) (by simp) .nil, ⟨⟨_, _, rfl⟩, by simp, by simp, fun h => absurd h (by omega)⟩⟩
  ·obtain ⟨g, rfl, hw'⟩ := hw h0
   obtain ⟨news, q1, q2, _⟩ := win_cont h hw' h0 hk hs
   have he := q1.elSh
   rw [he]
   exact ⟨n, news, q1, ⟨⟨_, _, rfl⟩, q1.len, q1.ones, fun _ => ⟨_, _, rfl, fun j u hj => by rw [add_lit0]; exact q2 j u hj⟩⟩⟩
 ·cases hs
theorem run_append_g {base : Nat} {t ty T : TypeId} {sh : Sh} {b : Nat} (he : elOf P t sh = some (T, b)) {A : Option Addr} {n c m : Nat} {xs news : List Value} {d : Value} (ho : w.ownsRow base T sh.size (.slice A n c) n xs) (hs : Src w m sh.size d news)
  (hb : (n + m) * b ≤ 140737488355328) (hbase : base ≤ w.heap.size) :
  ∃ A' c' w', (Builtin.append_ #[t, t] ty #[.slice A n c, d]).run P w = .ok (.slice A' (n + m) c') w' ∧ w'.ownsRow base T sh.size (.slice A' (n + m) c') (n + m) (xs ++ news) ∧ w.grownBy w' (Value.slice A n c).ownBlock ∧
   (∀ a, A' = some a → A.map (·.block) = some a.block ∨ a.block = w.heap.size) := by
 obtain ⟨i, z, hu, hi, hz, h1, h2, h3, h4, h5⟩ := elOf_spec he
 rcases Nat.eq_zero_or_pos m with h0 | h0
 ·subst h0
  have hn : news = [] := List.eq_nil_of_length_eq_zero (by rw [hs.len, Nat.zero_mul])
  subst hn
  obtain ⟨A2, k2, rfl⟩ := hs.form
  refine ⟨A, c, w, ?_, by simpa using ho, ⟨rfl, rfl, rfl, Nat.le_refl _, fun _ _ _ => rfl⟩, fun a ha => .inl (by rw [ha]; rfl)⟩
  have hnc : n ≤ c := by
   rcases ho.2 with ⟨e, h0⟩ | ⟨g, cap, cur, e, _, _, hn, _⟩
   ·omega
   ·injection e with _ _ e3; omega
  have hmA : A.isSome = true ∨ A = none := by cases A <;> simp
  cases A <;> cases A2 <;> simp [Builtin.append_, run_underlying hu, sizeOf, typeInfo, hi, Builtin.lenOf, Builtin.firstCells, loadCells, loadCellsFrom, hnc, storeCells]
 ·obtain ⟨a, k, rfl, hc⟩ := hs.at_ h0
  have hbb : (n + m) * 1 ≤ (n + m) * b := Nat.mul_le_mul_left _ h5
  obtain ⟨v', w', hrun, q3, q4, q5, q6⟩ := run_append_own_at (P := P) w base t ty T i z sh.size b hu hi hz h1 h4 h2 h3 _ _ _ ho a m k news hs.len hc hs.one (by unfold maxLen; omega) hb hbase
  have hform := q3.2
  rcases hform with ⟨_, e2⟩ | ⟨g, cap, cur, e1, r⟩
  ·omega
  ·subst e1
   refine ⟨_, _, w', hrun, q3, q4, fun a' ha' => ?_⟩
   injection ha' with ha'
   subst ha'
   simp only [Value.ownBlock] at q6
   rcases q6 with q6 | q6
   ·left
    cases A with
    | none => simp at q6
    | some a0 => simp at q6 ⊢; exact q6.symm
   ·right; injection q6
theorem fixE_or (so : Option Sh) (x z : V) : fixE so x z = z ∨ ∃ e, x = .nils ∧ z = .bytes [] ∧ fixE so x z = .rows e [] := by
 unfold fixE
 split
 ·exact .inr ⟨_, rfl, rfl, rfl⟩
 ·exact .inl rfl
theorem row_ne_str {y : V} (h : isSl y = true) : ∀ l, y ≠ .str l := by rintro l rfl; cases h
theorem op_append (h : HSim ι O w0 hp w) {nid : Nat} (hn : ι nid = none) {t ty : TypeId} {x y z : V} {c d : Value} {T b : Nat} (hx : VRep ι (Ex1 ι hp O) w x c) (hy : VRep ι (Ex1 ι hp O) w y d) {so : Option Sh} (hz0 : (appV hp x y).map (fixE so x) = some z) (he : elOf P t (elSh z) = some (T, b))
  (hok : appOk hp T x = true) (hsl : isSl y = true) (hb : lenC z * b ≤ 140737488355328) :
  ∃ e w', (Builtin.append_ #[t, t] ty #[c, d]).run P w = .ok e w' ∧ Post ι O w0 hp w nid (.own nid (lenC z) (elSh z)) ((ids x).map (fun i => (i, none)) ++ [(nid, some (.row T (elSh z) z))]) w' e := by
 obtain ⟨inf, zz, _, _, _, _, _, hpos, _, _⟩ := elOf_spec he
 obtain ⟨z0, hz, hfx⟩ := Option.map_eq_some_iff.1 hz0
 clear hz0
 unfold appV at hz
 cases hq : sliceC hp y with
 | none => rw [hq] at hz; cases hz
 | some bb =>
  simp only [hq] at hz
  -- the row that grows, and what it reads as then
  have key : ∃ A n k m xs news, c = .slice A n k ∧ w.ownsRow 0 T (elSh z).size (.slice A n k) n xs ∧ Src w m (elSh z).size d news ∧ RowC ι (Ex1 ι hp O) w (n + m) (elSh z) z (xs ++ news) ∧
    (∀ a, A = some a → ∃ id, id ∈ ids x ∧ Mine ι hp id a.block) := by
   split at hz
   ·injection hz with hz; subst hz
    cases hx.nils_inv
    rcases fixE_or so .nils bb with hsame | ⟨e, _, rfl, hsame⟩
    ·rw [hsame] at hfx; subst hfx
     obtain ⟨m, ds, r1, r2⟩ := src_rep h hy hq (row_ne_str hsl) hpos
     refine ⟨none, 0, 0, m, [], ds, rfl, World.ownsRow_nil w _ _ _, r2, ?_, fun a ha => by cases ha⟩
     rw [Nat.zero_add]; exact r1
    ·rw [hsame] at hfx; subst hfx
     obtain ⟨m, ds, r1, r2⟩ := src_rep h hy hq (row_ne_str hsl) (by decide)
     cases r1 with
     | bytes =>
      obtain ⟨A2, k2, rfl⟩ := r2.form
      exact ⟨none, 0, 0, 0, [], [], rfl, World.ownsRow_nil w _ _ _, ⟨⟨_, _, rfl⟩, by simp, by simp, fun h => absurd h (by omega)⟩, .rows (by simp) .nil, fun a ha => by cases ha⟩
   ·rename_i id n sh
    have hfx2 : z0 = z := by
     rcases fixE_or so _ z0 with h1 | ⟨e, h1, _⟩
     ·exact h1.symm.trans hfx
     ·cases h1
    subst hfx2
    clear hfx
    split at hz
    ·rename_i T' sh' a hk
     obtain ⟨A, k, T0, rfl, hi, hA⟩ := hx.own_inv
     have hT : T = T' := by
      simp only [appOk, hk] at hok
      exact Nat.eq_of_beq_eq_true hok
     subst hT
     cases h.blk id _ hk with
     | row h1 h2 h3 =>
      rw [hi] at h1; injection h1 with h1; injection h1 with e1 e2 e3 e4 e5
      subst e1; subst e2; subst e3; subst e4; subst e5
      rename_i xs
      have hm : ∀ a', A = some a' → ∃ i, i ∈ ids (.own id n sh) ∧ Mine ι hp i a'.block := by
       intro a' ha'
       subst ha'
       exact ⟨id, by simp [ids], _, _, hk, rfl, hi, rfl⟩
      unfold appC at hz
      split at hz
      ·injection hz with hz; subst hz
       rename_i p q
       cases h2 with
       | bytes =>
        obtain ⟨m, ds, r1, r2⟩ := src_rep h hy hq (row_ne_str hsl) hpos
        cases r1 with
        | bytes =>
         refine ⟨A, _, k, _, _, _, rfl, h3, r2, ?_, hm⟩
         rw [← List.map_append, ← List.length_append]
         exact .bytes
      ·rename_i e p f q
       obtain ⟨hbe, hz⟩ := ofBif hz
       injection hz with hz; subst hz
       have := Sh.beq_eq hbe
       subst this
       cases h2 with
       | rows g1 g2 =>
        obtain ⟨m, ds, r1, r2⟩ := src_rep h hy hq (row_ne_str hsl) hpos
        cases r1 with
        | rows g3 g4 =>
         refine ⟨A, _, k, _, _, _, rfl, h3, r2, ?_, hm⟩
         rw [← List.length_append]
         exact .rows (fun u hu => (List.mem_append.1 hu).elim (g1 u) (g3 u)) (g2.append g4)
      ·injection hz with hz; subst hz
       rename_i e p
       cases h2 with
       | rows g1 g2 =>
        obtain ⟨m, ds, r1, r2⟩ := src_rep h hy hq (row_ne_str hsl) (by decide)
        cases r1 with
        | bytes =>
         obtain ⟨A2, k2, rfl⟩ := r2.form
         refine ⟨A, _, k, 0, _, [], rfl, h3, ⟨⟨_, _, rfl⟩, by simp, by simp, fun h => absurd h (by omega)⟩, ?_, hm⟩
         rw [List.append_nil]
         exact .rows g1 g2
      ·cases hz
    ·cases hz
   ·cases hz
  obtain ⟨A, n, k, m, xs, news, rfl, k1, k2, k3, k4⟩ := key
  have hlen := k3.lenC
  rw [hlen] at hb
  obtain ⟨A', c', w', hrun, q1, q2, q3⟩ := run_append_g (ty := ty) he k1 k2 hb (Nat.zero_le _)
  have hbelow : Keeps w0.old w w' := ⟨q2.os, q2.tape, q2.output, q2.size, fun g hg => q2.block g (h.lt hg) (by
   cases A with
   | none => simp [Value.ownBlock]
   | some a =>
    simp only [Value.ownBlock]
    intro e
    injection e with e
    subst e
    obtain ⟨id, hid, hm⟩ := k4 a rfl
    exact (h.fresh id _ hm).1 hg)⟩
  obtain ⟨a1, a2, a3⟩ := h.newRow (w' := w') (nid := nid) hn (ids x) T (elSh z) z (A := A') (n := n + m) (c := c') (ds := xs ++ news) hbelow (fun g hlt hnm => q2.block g hlt (by
    cases A with
    | none => simp [Value.ownBlock]
    | some a =>
     simp only [Value.ownBlock]
     intro e
     injection e with e
     subst e
     obtain ⟨id, hid, hm⟩ := k4 a rfl
     exact hnm id hid hm)) (fun a ha => by
    rcases q3 a ha with hq | hq
    ·cases A with
     | none => cases hq
     | some a0 =>
      have hq : a0.block = a.block := by simpa using hq
      obtain ⟨id, hid, hm⟩ := k4 a0 rfl
      rw [hq] at hm
      exact .inl ⟨id, hid, hm⟩
    ·exact .inr (by omega)) q1
  refine ⟨_, w', hrun, updI ι nid (.row A' (n + m) c' T (elSh z)), a3 (k3.ext a1), a1, ?_, fun id hid => ?_⟩
  ·rw [hlen]
   exact .one (.own updI_self (fun h0 => (own_form q1).elim id fun e => absurd e.2.1 (by omega)) (own_caps q1)) rfl
  ·unfold updI; rw [if_neg hid]
theorem setP_get : ∀ (p : List Step) {v y v' : V}, setP v p y = some v' → ∃ x, getP v p = some x
 | [], v, y, v', h => ⟨v, by cases v <;> rfl⟩
 | .fld j :: p, v, y, v', h => by
  cases v with
  | agg l =>
   simp only [setP] at h
   cases hq : nthL l j with
   | none => rw [hq] at h; cases h
   | some u =>
    simp only [hq] at h
    cases hs : setP u p y with
    | none => rw [hs] at h; cases h
    | some z => obtain ⟨x, hx⟩ := setP_get p hs; exact ⟨x, by simp only [getP, hq, hx]⟩
  | _ => simp [setP] at h
 | .idx i :: p, v, y, v', h => by
  cases v with
  | barr n l => cases p with
   | nil => exact ⟨_, rfl⟩
   | cons => simp [setP] at h
  | bytes l => cases p with
   | nil => exact ⟨_, rfl⟩
   | cons => simp [setP] at h
  | arr e n l =>
   simp only [setP] at h
   cases hs : setP (eta e (l.getD i .undef)) p y with
   | none => rw [hs] at h; cases h
   | some z => obtain ⟨x, hx⟩ := setP_get p hs; exact ⟨x, by simpa only [getP] using hx⟩
  | rows e l =>
   simp only [setP] at h
   cases hs : setP (eta e (l.getD i .undef)) p y with
   | none => rw [hs] at h; cases h
   | some z => obtain ⟨x, hx⟩ := setP_get p hs; exact ⟨x, by simpa only [getP] using hx⟩
  | _ => simp [setP] at h
theorem ownsRow_set {base g n c off : Nat} {T : TypeId} {size : Nat} {pre cs post zs : List Value} (h : w.ownsRow base T size (.slice (some ⟨g, 0, none⟩) n c) n (pre ++ (cs ++ post))) (h1 : pre.length = off) (h2 : zs.length = cs.length) :
  (∃ cur, Bas.Blk w g T cur ∧ off + zs.length ≤ cur.length) ∧ (w.setCells g off zs).ownsRow base T size (.slice (some ⟨g, 0, none⟩) n c) n (pre ++ (zs ++ post)) := by
 have hl := h.1
 rcases h.2 with ⟨e, _⟩ | ⟨g', cap, cur, e, hb, hg, hn, hm, hs, ht⟩
 ·cases e
 ·injection e with e1 e2 e3
  injection e1 with e1; injection e1 with e1
  subst e1; subst e3
  have hblk : Bas.Blk w g T cur.toList := by unfold Bas.Blk; simpa using hg
  have hle : n * size ≤ cur.toList.length := by rw [Array.length_toList, hs]; exact Nat.mul_le_mul_right _ hn
  have hfit : off + zs.length ≤ n * size := by rw [← hl]; simp only [List.length_append]; omega
  refine ⟨⟨cur.toList, hblk, by omega⟩, by simp only [List.length_append] at hl ⊢; omega, .inr ⟨g, c, (cur.toList.take off ++ (zs ++ cur.toList.drop (off + zs.length))).toArray, rfl, hb, ?_, hn, hm, ?_, ?_⟩⟩
  ·have := Bas.Blk.sets zs off hblk (by omega)
   exact this
  ·rw [List.size_toArray]; simp only [List.length_append, List.length_take, List.length_drop, Array.length_toList] at *; omega
  ·have := splice_take cur.toList zs off (n * size) hfit hle
   rw [List.toList_toArray, this, ht, ← h1, List.take_left, h2, List.drop_append, List.drop_of_length_le (by omega), show pre.length + cs.length - pre.length = cs.length by omega, List.drop_left, List.nil_append]
theorem op_store_row (h : HSim ι O w0 hp w) {id : Nat} {T : TypeId} {s0 sh : Sh} {v v' y z : V} {p : List Step} {off : Nat} {t : TypeId} {c d : Value} (hk : hp id = some (.row T s0 v))
  (hx : VRep ι (Ex1 ι hp O) w (.ref id p off sh) c) (hy : VRep ι (Ex1 ι hp O) w y d) (hlow : low false hp sh y = some z) (hs : setP v p z = some v') (hl : ldOk P t sh = true) (hsh : isR sh z = true) (hni : (ids y).contains id = false) :
  ∃ w', (Instr.storeAt t c d).run P w = .ok () w' ∧ ∀ nid, Post ι O w0 hp w nid .void ((id, some (.row T s0 v')) :: sealB hp (ids y)) w' Go.undef := by
 obtain ⟨g, rfl, hr⟩ := hx.ref_inv
 obtain ⟨x, hg⟩ := setP_get p hs
 obtain ⟨h1, hx1⟩ := h.seals (ids y)
 have hk1 : updH (sealB hp (ids y)) hp id = some (.row T s0 v) := by
  rw [seal_at, if_neg (by simpa using hni)]; exact hk
 have hzv := low_repV h hx1 hlow (Lent.seal h _) LentV.no hy
 have hz0 := hzv.cells (isR_isSh hsh)
 have hz : CRep ι (Ex1 ι (updH (sealB hp (ids y)) hp) O) w z d.cells.toList := CRep.any hsh hz0
 have hzl := CRep.len (isR_isSh hsh) hz
 have hld := (ldOk_spec hl).1
 cases h1.blk id _ hk1 with
 | row hi hc ho =>
  rename_i A n k ds
  rcases hr with ⟨s1, e1, _⟩ | ⟨n', c', T', e, e1, ha, hp⟩
  ·rw [hi] at e1; cases e1
  ·rw [hi] at e1; injection e1 with e1; injection e1 with q1 q2 q3 q4 q5
   subst q1; subst q2; subst q3; subst q4; subst q5
   obtain ⟨pre, cs, post, rfl, k1, k2, k3, k4, k5⟩ := row_rep ha hp hc hg
   have m1 := k5 z _ v' (isR_isSh hsh) hz hs
   obtain ⟨⟨cur, hb, hlen⟩, hor⟩ := ownsRow_set (zs := d.cells.toList) ho k1 (by omega)
   refine ⟨_, run_store_g hb rfl (by rw [hld, hzl]) hlen (CRep.ones (isR_isSh hsh) hz), fun nid => ?_⟩
   have hm : Mine ι (updH (sealB _ (ids y)) _) id g := ⟨_, _, hk1, rfl, hi, rfl⟩
   have hf := h1.fresh id g hm
   obtain ⟨he, hw⟩ := h1.write (k' := .row T s0 v') hk1 rfl (keeps_setCells hf.1 _ off w) (size_setCells _ off w) (w' := w.setCells g off d.cells.toList) (fun b _ hnm => heap_setCells _ off w fun e => hnm (e ▸ hm))
   have hH := hw (.row hi (m1.ext he) hor)
   refine ⟨ι, ?_, ?_, .void, fun _ _ => rfl⟩
   ·rw [updH_cons]; exact hH
   ·rw [updH_cons]; exact hx1.trans he
theorem cpL_len {l src : List UInt8} {lo n : Nat} (h : lo + n ≤ l.length) : (cpL l lo n src).length = l.length := by
 simp only [cpL, List.length_append, List.length_take, List.length_drop]; omega
theorem cp_split {l src : List UInt8} {lo n : Nat} : ∃ m : List UInt8, l = l.take lo ++ (m ++ l.drop (lo + min n src.length)) ∧ (lo + n ≤ l.length → m.length = (src.take n).length) := by
 refine ⟨(l.drop lo).take (min n src.length), ?_, fun h => by simp only [List.length_take, List.length_drop]; omega⟩
 rw [← List.drop_drop, List.take_append_drop, List.take_append_drop]
theorem run_copy_g {t t' ty : TypeId} (ht : ixOkS P t (.int .u8) = true) {A : Option Addr} {n k : Nat} {d : Value} {src : List UInt8} (hs : Src w src.length 1 d (src.map bv)) {g off : Nat} (hA : 0 < n → A = some ⟨g, off, none⟩)
  (hb : ∀ j, j < (src.take n).length → (w.cell? ⟨g, off + j, none⟩).isSome = true ∧ w.frozen? ⟨g, off + j, none⟩ = false) :
  (Builtin.copy_ #[t, t'] ty #[.slice A n k, d]).run P w = .ok (.int .i64 ((min n src.length : Nat) : Int)) (w.setCells g off ((src.take n).map bv)) := by
 obtain ⟨e, hu, hz, _⟩ := ixOkS_spec ht
 obtain ⟨A2, k2, rfl⟩ := hs.form
 rcases Nat.eq_zero_or_pos (min n src.length) with h0 | h0
 ·rw [run_copy_none (P := P) w t t' ty e A A2 n k src.length k2 hu hz (by rw [Nat.min_comm] at h0; exact h0), h0]
  have : src.take n = [] := List.eq_nil_of_length_eq_zero (by simp only [List.length_take]; omega)
  rw [this]
  rfl
 ·obtain ⟨a, k3, e3, hc⟩ := hs.at_ (by omega)
  injection e3 with e3 _ _
  subst e3
  rw [hA (by omega)]
  have hlen : ((src.take n).map bv).length = min n src.length := by simp
  have := run_copy_cells (P := P) w t t' ty e g off n k a src.length k2 ((src.take n).map bv) hu hz (by rw [hlen, Nat.min_comm]) (fun j v hv => hc j v (by
   rw [List.getElem?_map, List.getElem?_take] at hv
   rw [List.getElem?_map]
   split at hv
   ·exact hv
   ·cases hv)) (fun j hj => (hb j (by simpa using hj)).1) (fun j hj => (hb j (by simpa using hj)).2) (bv_one _)
  rw [this, hlen]
  rfl
theorem op_copy (h : HSim ι O w0 hp w) {t t' ty : TypeId} {x y : V} {c d : Value} {src : List UInt8} {r : Res} (hx : VRep ι (Ex1 ι hp O) w x c) (hy : VRep ι (Ex1 ι hp O) w y d) (hs : sliceC hp y = some (.bytes src)) (hsl : isSl y = true)
  (ht : ixOkS P t (.int .u8) = true) (hr : copyV hp x src = some r) (hob : r.ob = true) :
  ∃ e w', (Builtin.copy_ #[t, t'] ty #[c, d]).run P w = .ok e w' ∧ ∀ nid, Post ι O w0 hp w nid r.v r.wr w' e := by
 obtain ⟨m, ds, r1, r2⟩ := src_rep h hy hs (row_ne_str hsl) (by simp [elSh, Sh.size])
 cases r1 with
 | bytes =>
 have r2 : Src w src.length 1 d (src.map bv) := r2
 unfold copyV at hr
 split at hr
 ·injection hr with hr; subst hr
  cases hx.nils_inv
  have := run_copy_g (P := P) (t' := t') (ty := ty) ht (A := none) (n := 0) (k := 0) r2 (g := 0) (off := 0) (fun h => absurd h (by omega)) (fun j hj => by simp at hj)
  refine ⟨_, _, this, fun nid => ?_⟩
  simp only [List.take_zero, List.map_nil, World.setCells, Nat.zero_min]
  exact Post.pure h (VRep.i fun h => by cases h)
 ·rename_i id n
  split at hr
  ·rename_i T s l hk
   injection hr with hr; subst hr
   obtain ⟨A, k, T0, rfl, hi, hA⟩ := hx.own_inv
   cases h.blk id _ hk with
   | row h1 h2 h3 =>
    rw [hi] at h1; injection h1 with h1; injection h1 with e1 e2 e3 e4 e5
    subst e1; subst e2; subst e3; subst e4; subst e5
    cases h2 with
    | bytes =>
     rcases Nat.eq_zero_or_pos l.length with h0 | h0
     ·have hl : l = [] := List.eq_nil_of_length_eq_zero h0
      subst hl
      have := run_copy_g (P := P) (t' := t') (ty := ty) ht (A := A) (n := 0) (k := k) r2 (g := 0) (off := 0) (fun h => absurd h (by omega)) (fun j hj => by simp at hj)
      refine ⟨_, _, this, fun nid => ?_⟩
      have e : cpL [] 0 ([] : List UInt8).length src = [] := by simp [cpL]
      rw [e]
      obtain ⟨he, hw⟩ := h.write (k' := .row T0 (.int .u8) (.bytes [])) hk rfl (Keeps.refl _ w) rfl (fun _ _ _ => rfl)
      exact ⟨ι, hw (.row hi .bytes h3), he, VRep.i (fun h => (by cases h)), fun _ _ => rfl⟩
     ·obtain ⟨g, rfl⟩ := hA h0
      obtain ⟨mid, hm1, hm2⟩ := cp_split (l := l) (src := src) (lo := 0) (n := l.length)
      have hm3 := hm2 (by omega)
      have h3' : w.ownsRow 0 T0 (Sh.int IntKind.u8).size (.slice (some ⟨g, 0, none⟩) l.length k) l.length ((l.take 0).map bv ++ (mid.map bv ++ (l.drop (0 + min l.length src.length)).map bv)) := by
       rw [← List.map_append, ← List.map_append, ← hm1]; exact h3
      obtain ⟨⟨cur, hb, hlen⟩, hor⟩ := ownsRow_set (zs := (src.take l.length).map bv) h3' (off := 0) (by simp) (by rw [List.length_map, List.length_map, hm3])
      have hrun := run_copy_g (P := P) (t' := t') (ty := ty) ht (A := some ⟨g, 0, none⟩) (n := l.length) (k := k) r2 (g := g) (off := 0) (fun _ => rfl) (fun j hj => by
       have := hb.there (o := 0) (n := ((src.take l.length).map bv).length) hlen j (by simpa using hj)
       exact this)
      refine ⟨_, _, hrun, fun nid => ?_⟩
      have hmine : Mine ι hp id g := ⟨_, _, hk, rfl, hi, rfl⟩
      have hf := h.fresh id g hmine
      obtain ⟨he, hw⟩ := h.write (k' := .row T0 (.int .u8) (.bytes (cpL l 0 l.length src))) hk rfl (keeps_setCells hf.1 _ 0 w) (size_setCells _ 0 w) (w' := w.setCells g 0 ((src.take l.length).map bv)) (fun b _ hnm => heap_setCells _ 0 w fun e => hnm (e ▸ hmine))
      refine ⟨ι, hw (.row (ds := (cpL l 0 l.length src).map bv) hi ?_ ?_), he, VRep.i (fun h => (by cases h)), fun _ _ => rfl⟩
      ·have := RowC.bytes (ι := ι) (O := Ex1 ι (updH [(id, some (.row T0 (.int .u8) (.bytes (cpL l 0 l.length src))))] hp) O) (w := w.setCells g 0 ((src.take l.length).map bv)) (l := cpL l 0 l.length src)
       rw [cpL_len (by omega)] at this
       exact this
      ·unfold cpL
       rw [List.map_append, List.map_append]
       exact hor
  ·cases hr
 ·rename_i id p off lo n c0
  split at hr
  ·rename_i s v hk
   split at hr
   ·rename_i v' hcp
    injection hr with hr; subst hr
    have hn : 0 < n := Nat.le_of_ble_eq_true hob
    obtain ⟨A, k, rfl, c1, c2, hw⟩ := hx.win_inv
    obtain ⟨g, rfl, hw'⟩ := hw hn
    unfold cpV at hcp
    split at hcp
    ·rename_i N' l hg
     cases h.blk id _ hk with
     | var hi hs0 hb hc =>
      rename_i g' ds T
      rcases hw' with ⟨r, N, o, hr, hS, rfl, a3, a4, _⟩ | ⟨N, cc, T', a1, _, _, _⟩
      ·rcases hr with ⟨s1, e1, ha⟩ | ⟨n', c', T', e, e1, _⟩
       ·rw [hi] at e1; injection e1 with e1; injection e1 with e1 e2; subst e1; subst e2
        obtain ⟨pre, cs, post, rfl, k1, k2, k3, k4, k5⟩ := part_rep ha hs0 hc hg
        have hr : r = .barr N ∧ N' = N := by
         cases hS with
         | b => simp [isSh] at k4; exact ⟨rfl, k4.symm⟩
         | a => simp [isSh] at k4
        obtain ⟨rfl, rfl⟩ := hr
        have hll : l.length = N' := by cases k3 with | barr hl => exact hl
        have hcs : cs = l.map bv := by cases k3 with | barr hl => rfl
        subst hcs
        obtain ⟨mid, hm1, hm2⟩ := cp_split (l := l) (src := src) (lo := lo) (n := n)
        have hm3 := hm2 (by omega)
        have hnew : CRep ι (Ex1 ι hp O) w (.barr N' (cpL l lo n src)) ((cpL l lo n src).map bv) := .barr (by rw [cpL_len (by omega)]; exact hll)
        obtain ⟨m1, m2⟩ := k5 _ _ v' (by simp [isSh]) hnew hcp
        have hds : pre ++ (l.map bv ++ post) = (pre ++ (l.take lo).map bv) ++ (mid.map bv ++ ((l.drop (lo + min n src.length)).map bv ++ post)) := by
         conv => lhs; rw [hm1]
         simp [List.map_append]
        have hoff : (pre ++ (l.take lo).map bv).length = o + lo * (Sh.int IntKind.u8).size := by
         simp only [List.length_append, List.length_map, List.length_take, Sh.size, k1]; omega
        have hfit : o + lo * (Sh.int IntKind.u8).size + ((src.take n).map bv).length ≤ (pre ++ (l.map bv ++ post)).length := by
         rw [hds, ← hoff]; simp only [List.length_append, List.length_map]; omega
        have hrun := run_copy_g (P := P) (t' := t') (ty := ty) ht (A := some ⟨g', o + lo * (Sh.int IntKind.u8).size, none⟩) (n := n) (k := k) r2 (g := g') (off := o + lo * (Sh.int IntKind.u8).size) (fun _ => rfl) (fun j hj => hb.there (o := o + lo * (Sh.int IntKind.u8).size) (n := ((src.take n).map bv).length) hfit j (by simpa using hj))
        refine ⟨_, _, hrun, fun nid => ?_⟩
        have hm : Mine ι hp id g' := ⟨_, _, hk, rfl, hi, rfl⟩
        have hf := h.fresh id g' hm
        obtain ⟨he, hwr⟩ := h.write (k' := .var s v') hk rfl (keeps_setCells hf.1 _ _ w) (size_setCells _ _ w) (w' := w.setCells g' (o + lo * (Sh.int IntKind.u8).size) ((src.take n).map bv)) (fun b _ hnm => heap_setCells _ _ w fun e => hnm (e ▸ hm))
        have hbl := Bas.Blk.sets ((src.take n).map bv) (o + lo * (Sh.int IntKind.u8).size) hb hfit
        have e : (pre ++ (l.map bv ++ post)).take (o + lo * (Sh.int IntKind.u8).size) ++ ((src.take n).map bv ++ (pre ++ (l.map bv ++ post)).drop (o + lo * (Sh.int IntKind.u8).size + ((src.take n).map bv).length)) = pre ++ ((cpL l lo n src).map bv ++ post) := by
         rw [hds, ← hoff, List.take_left, List.length_map, ← hm3, ← List.length_map (f := bv) (as := mid), ← List.drop_drop, List.drop_left, List.drop_left]
         unfold cpL
         simp [List.map_append]
        rw [e] at hbl
        exact ⟨ι, hwr (.var hi m2 hbl (m1.ext he)), he, VRep.i (fun h => (by cases h)), fun _ _ => rfl⟩
       ·rw [hi] at e1; cases e1
      ·rw [hi] at a1; cases a1
    ·cases hcp
   ·cases hr
  ·rename_i T s l hk
   split at hr
   ·injection hr with hr; subst hr
    have hn : 0 < n := Nat.le_of_ble_eq_true hob
    obtain ⟨A, k, rfl, c1, c2, hw⟩ := hx.win_inv
    obtain ⟨g, rfl, hw'⟩ := hw hn
    cases h.blk id _ hk with
    | row hi h2 h3 =>
     rcases hw' with ⟨r, N, o, hr, hS, rfl, a3, a4, _⟩ | ⟨N, cc, T', a1, _, rfl, a2⟩
     ·rcases hr with ⟨s1, e1, _⟩ | ⟨n', c', T', e, e1, ha, hne⟩
      ·rw [hi] at e1; cases e1
      ·exact absurd rfl hne
     ·rw [a1] at hi; injection hi with hi; injection hi with e1 e2 e3 e4 e5
      subst e1; subst e2; subst e3; subst e4; subst e5
      cases h2 with
      | bytes =>
       obtain ⟨mid, hm1, hm2⟩ := cp_split (l := l) (src := src) (lo := lo) (n := n)
       have hm3 := hm2 (by omega)
       have h3' : w.ownsRow 0 T' (Sh.int IntKind.u8).size (.slice (some ⟨g, 0, none⟩) l.length cc) l.length ((l.take lo).map bv ++ (mid.map bv ++ (l.drop (lo + min n src.length)).map bv)) := by
        rw [← List.map_append, ← List.map_append, ← hm1]; exact h3
       obtain ⟨⟨cur, hb, hlen⟩, hor⟩ := ownsRow_set (zs := (src.take n).map bv) h3' (off := lo * (Sh.int IntKind.u8).size) (by simp only [List.length_map, List.length_take, Sh.size]; omega) (by rw [List.length_map, List.length_map, hm3])
       have hrun := run_copy_g (P := P) (t' := t') (ty := ty) ht (A := some ⟨g, lo * (Sh.int IntKind.u8).size, none⟩) (n := n) (k := k) r2 (g := g) (off := lo * (Sh.int IntKind.u8).size) (fun _ => rfl) (fun j hj => hb.there (o := lo * (Sh.int IntKind.u8).size) (n := ((src.take n).map bv).length) hlen j (by simpa using hj))
       refine ⟨_, _, hrun, fun nid => ?_⟩
       have hmine : Mine ι hp id g := ⟨_, _, hk, rfl, a1, rfl⟩
       have hf := h.fresh id g hmine
       obtain ⟨he, hwr⟩ := h.write (k' := .row T' (.int .u8) (.bytes (cpL l lo n src))) hk rfl (keeps_setCells hf.1 _ _ w) (size_setCells _ _ w) (w' := w.setCells g (lo * (Sh.int IntKind.u8).size) ((src.take n).map bv)) (fun b _ hnm => heap_setCells _ _ w fun e => hnm (e ▸ hmine))
       refine ⟨ι, hwr (.row (ds := (cpL l lo n src).map bv) a1 ?_ ?_), he, VRep.i (fun h => (by cases h)), fun _ _ => rfl⟩
       ·have := RowC.bytes (ι := ι) (O := Ex1 ι (updH [(id, some (.row T' (.int .u8) (.bytes (cpL l lo n src))))] hp) O) (w := w.setCells g (lo * (Sh.int IntKind.u8).size) ((src.take n).map bv)) (l := cpL l lo n src)
        rw [cpL_len (by omega)] at this
        exact this
       ·unfold cpL
        rw [List.map_append, List.map_append]
        exact hor
   ·cases hr
  ·cases hr
 ·cases hr
end
end Go.Am
namespace Go.Am
open Go Go.RowKit Go.Bas
section
variable {ι : Nat → Option Cn} {O : Nat → Prop} {w0 : Zone} {w : World} {hp : Nat → Option Blk} {P : Program}
theorem op_conv (h : HSim ι O w0 hp w) {src dst : TypeId} {x v : V} {c : Value} (hx : VRep ι (Ex1 ι hp O) w x c) (hc : convV P src dst x hp = some v) :
  ∃ d, (convert src dst c).run P w = .ok d w ∧ VRep ι (Ex1 ι hp O) w v d := by
 unfold convV at hc
 split at hc
 ·rename_i s k k' n hs hd
  injection hc with hc; subst hc
  obtain ⟨rfl, _⟩ := hx.int_inv
  refine ⟨.int k (k.wrap n), ?_, VRep.i (by rintro rfl; exact wrap_u8 _)⟩
  simp [convert, run_underlying hs, run_underlying hd, Conv.intToInt]
 ·rename_i l hs hd
  injection hc with hc; subst hc
  cases hx.str_inv
  exact ⟨_, by simp [convert, run_underlying hs, run_underlying hd], VRep.s⟩
 ·rename_i e hs hd
  split at hc
  ·rename_i he
   split at hc
   ·rename_i l hsl
    obtain ⟨hisl, hc⟩ := ofBif hc
    injection hc with hc; subst hc
    have key : ∃ A n k, c = .slice A n k ∧ Bs w A n k l := by
     unfold sliceC at hsl
     split at hsl
     ·injection hsl with hsl; injection hsl with hsl; subst hsl
      exact ⟨_, _, _, hx.nils_inv, Bs.nil _ _ _ (by omega)⟩
     ·injection hsl with hsl; injection hsl with hsl; subst hsl
      obtain ⟨A, n, k, rfl, hb, _⟩ := hx.bytes_inv
      exact ⟨_, _, _, rfl, hb⟩
     ·cases hsl
     ·cases hisl
     ·obtain ⟨k, hk, hck⟩ := Option.map_eq_some_iff.1 hsl
      obtain ⟨A, c', T, rfl, hi, hA⟩ := hx.own_inv
      rename_i n sh
      rcases own_cont h hi hk with ⟨ds, h1, h2, h3⟩ | ⟨h1, h2, h3, _⟩
      ·rw [hck] at h1
       cases h1 with
       | bytes =>
        have hown : Own w 0 T A l.length c' l := ⟨rfl, h2⟩
        exact ⟨_, _, _, rfl, hown.bs⟩
      ·rw [hck] at h1
       cases h1 with
       | bytes hb _ => exact ⟨_, _, _, rfl, hb⟩
     ·rename_i id p off lo n c0 sh
      obtain ⟨k, hk, hsl⟩ := Option.bind_eq_some_iff.1 hsl
      obtain ⟨A, kk, rfl, h1, h2, hw⟩ := hx.win_inv
      rcases Nat.eq_zero_or_pos n with h0 | h0
      ·subst h0
       obtain ⟨y, _, hc⟩ := winC_cut hsl
       rcases cut_zero hc with e | ⟨e, e'⟩
       ·injection e with e; subst e
        exact ⟨_, _, _, rfl, Bs.nil _ _ _ h2⟩
       ·cases e'
      ·obtain ⟨g, rfl, hw'⟩ := hw h0
       obtain ⟨news, q1, q2, q3, _⟩ := win_cont h hw' h0 hk hsl
       have := view_of (X := fun _ => False) (q1.ext (Ext.mk (Nat.le_refl _) (fun _ _ e => e) (fun _ _ _ => rfl) fun _ h => h.elim)) h1 h2 (fun h => h) q3 q2
       cases this with
       | bytes hb _ => exact ⟨_, _, _, rfl, hb⟩
     ·cases hsl
    obtain ⟨A, n, k, rfl, hb⟩ := key
    exact ⟨_, run_string src e dst hs he hd hb, VRep.s⟩
   ·cases hc
  ·cases hc
 ·cases hc
theorem op_min {X : Nat → Prop} {ts : Array TypeId} {ty : TypeId} {k : IntKind} {x y : Int} {c d : Value} (hx : VRep ι X w (.int k x) c) (hy : VRep ι X w (.int k y) d) :
  (Builtin.min_ ts ty #[c, d]).run P w = .ok (.int k (if y < x then y else x)) w ∧ VRep ι X w (.int k (if y < x then y else x)) (.int k (if y < x then y else x)) := by
 obtain ⟨rfl, h1⟩ := hx.int_inv; obtain ⟨rfl, h2⟩ := hy.int_inv
 exact ⟨by simp [Builtin.min_, Builtin.min2], VRep.i fun hk => by have := h1 hk; have := h2 hk; split <;> omega⟩
theorem op_max {X : Nat → Prop} {ts : Array TypeId} {ty : TypeId} {k : IntKind} {x y : Int} {c d : Value} (hx : VRep ι X w (.int k x) c) (hy : VRep ι X w (.int k y) d) :
  (Builtin.max_ ts ty #[c, d]).run P w = .ok (.int k (if y > x then y else x)) w ∧ VRep ι X w (.int k (if y > x then y else x)) (.int k (if y > x then y else x)) := by
 obtain ⟨rfl, h1⟩ := hx.int_inv; obtain ⟨rfl, h2⟩ := hy.int_inv
 exact ⟨by simp [Builtin.max_, Builtin.max2], VRep.i fun hk => by have := h1 hk; have := h2 hk; split <;> omega⟩
inductive PRep (ι : Nat → Option Cn) (X : Nat → Prop) (w : World) : List (Nat × V) → List (Nat × Value) → Prop
 | nil : PRep ι X w [] []
 | cons {j v c r s} (h : VRep ι X w v c) (hr : PRep ι X w r s) : PRep ι X w ((j, v) :: r) ((j, c) :: s)
theorem set_cells (off : Nat) : ∀ (zs : List Value) (k : Nat) (l : List Value), off + k + zs.length ≤ l.length →
  (zs.zipIdx k).foldl (fun (cs : Array Value) (x : Value × Nat) => cs.setIfInBounds (off + x.2) x.1) l.toArray = (l.take (off + k) ++ (zs ++ l.drop (off + k + zs.length))).toArray
 | [], k, l, _ => by simp
 | z :: zs, k, l, h => by
  rw [List.zipIdx_cons, List.foldl_cons]
  simp only [List.setIfInBounds_toArray]
  have h' : off + (k + 1) + zs.length ≤ (l.set (off + k) z).length := by simp at h ⊢; omega
  rw [set_cells off zs (k + 1) _ h']
  have h1 : off + k < l.length := by simp at h; omega
  rw [show off + (k + 1) = off + k + 1 by omega, set_take z h1, List.drop_set_of_lt (by omega)]
  simp only [List.append_assoc, List.cons_append, List.nil_append, List.length_cons]
  rw [show off + k + 1 + zs.length = off + k + (zs.length + 1) by omega]
theorem fill_step {place : Nat → Option (Nat × Nat)} {pre cs post zs : List Value} {j off size : Nat} {c : Value} {r : List (Nat × Value)} (hp : place j = some (off, size)) (hz : c.cells.toList = zs) (h1 : pre.length = off) (h2 : cs.length = size) (h3 : zs.length = size) :
  Instr.fill place (pre ++ (cs ++ post)).toArray ((j, c) :: r) = Instr.fill place (pre ++ (zs ++ post)).toArray r := by
 have hsz : c.cells.size = size := by rw [← Array.length_toList, hz, h3]
 have hc : c.cells = zs.toArray := by rw [← hz]
 have hle : ¬ (pre ++ (cs ++ post)).toArray.size < off + size := by simp; omega
 rw [Instr.fill]
 simp only [hp, hsz]
 rw [if_neg (by simp; omega)]
 congr 1
 rw [hc]
 have := set_cells off zs 0 (pre ++ (cs ++ post)) (by simp; omega)
 have e : (pre ++ (cs ++ post)).take (off + 0) ++ (zs ++ (pre ++ (cs ++ post)).drop (off + 0 + zs.length)) = pre ++ (zs ++ post) := by
  rw [Nat.add_zero, ← h1, List.take_left, h3, ← h2, List.drop_append, List.drop_of_length_le (by omega), show pre.length + cs.length - pre.length = cs.length by omega, List.drop_left, List.nil_append]
 rw [e] at this
 rw [← this]
 simp
theorem fill_nil {place : Nat → Option (Nat × Nat)} {cs : Array Value} : Instr.fill place cs [] = some cs := by rw [Instr.fill]
theorem fill_struct {X : Nat → Prop} {place : Nat → Option (Nat × Nat)} {ss : List Sh} (hp : ∀ j s, nthL ss j = some s → place j = some (fldOff ss j, s.size)) :
  ∀ (ps : List (Nat × V)) (cs : List (Nat × Value)) (l l' : List V) (ds : List Value), PRep ι X w ps cs → isShs ss l = true → CReps ι X w l ds → buildP isSh ss l ps = some l' →
   ∃ ds', Instr.fill place ds.toArray cs = some ds'.toArray ∧ CReps ι X w l' ds'
 | [], cs, l, l', ds, hr, _, hd, hb => by
  cases hr
  injection hb with hb; subst hb
  exact ⟨ds, fill_nil, hd⟩
 | (j, x) :: ps, cs, l, l', ds, hr, hs, hd, hb => by
  cases hr with
  | cons hv hr =>
   rename_i c cs
   simp only [buildP] at hb
   cases hj : nthL ss j with
   | none => rw [hj] at hb; cases hb
   | some s =>
    simp only [hj] at hb
    obtain ⟨hx, hb⟩ := ofBif hb
    obtain ⟨v, hv', _⟩ := isShs_nth hs hj
    obtain ⟨pre, es, post, rfl, h1, h2, h3, h4⟩ := CReps.part hs hd hj hv'
    have hz := hv.cells hx
    have hzl := CRep.len hx hz
    rw [fill_step (hp j s hj) rfl h1 h2 hzl]
    exact fill_struct hp ps cs _ l' _ hr (isShs_set hs hj hx) (h4 x _ hz) hb
theorem setL_eq {α : Type} : ∀ (l : List α) (j : Nat) (x : α), setL l j x = l.set j x
 | [], _, _ => rfl
 | _ :: _, 0, _ => rfl
 | _ :: l, j + 1, x => by simp [setL, setL_eq l j x]
theorem fill_arr {X : Nat → Prop} {place : Nat → Option (Nat × Nat)} {e : Sh} (hp : ∀ j, place j = some (j * e.size, e.size)) :
  ∀ (ps : List (Nat × V)) (cs : List (Nat × Value)) (l l' : List V) (ds : List Value), PRep ι X w ps cs → (∀ x ∈ l, isR e x = true) → CReps ι X w l ds → buildA e l ps = some l' →
   ∃ ds', Instr.fill place ds.toArray cs = some ds'.toArray ∧ CReps ι X w l' ds' ∧ (∀ x ∈ l', isR e x = true) ∧ l'.length = l.length
 | [], cs, l, l', ds, hr, hs, hd, hb => by
  cases hr
  injection hb with hb; subst hb
  exact ⟨ds, fill_nil, hd, hs, rfl⟩
 | (j, x) :: ps, cs, l, l', ds, hr, hs, hd, hb => by
  cases hr with
  | cons hv hr =>
   rename_i c cs
   simp only [buildA] at hb
   obtain ⟨hx, hb⟩ := ofBif hb
   simp only [Bool.and_eq_true] at hx
   have hlt : j < l.length := Nat.le_of_ble_eq_true hx.2
   obtain ⟨pre, es, post, rfl, h1, h2, h3, h4⟩ := CReps.elem hd hs hlt
   have hz := hv.cells (isR_isSh hx.1)
   have hzl := CRep.len (isR_isSh hx.1) hz
   rw [fill_step (hp j) rfl h1 h2 hzl]
   rw [setL_eq] at hb
   obtain ⟨ds', k1, k2, k3, k4⟩ := fill_arr hp ps cs _ l' _ hr (fun y hy => by
    rcases List.mem_or_eq_of_mem_set hy with hy | hy
    ·exact hs y hy
    ·subst hy; exact hx.1) (h4 x _ hz) hb
   exact ⟨ds', k1, k2, k3, by rw [k4, List.length_set]⟩
theorem fill_bytes {X : Nat → Prop} {place : Nat → Option (Nat × Nat)} (hp : ∀ j, place j = some (j * 1, 1)) {n : Nat} :
  ∀ (ps : List (Nat × V)) (cs : List (Nat × Value)) (l l' : List UInt8), PRep ι X w ps cs → l.length = n → buildB n l ps = some l' →
   Instr.fill place (l.map bv).toArray cs = some (l'.map bv).toArray ∧ l'.length = n
 | [], cs, l, l', hr, hn, hb => by
  cases hr
  simp only [buildB] at hb
  injection hb with hb; subst hb
  exact ⟨fill_nil, hn⟩
 | (j, x) :: ps, cs, l, l', hr, hn, hb => by
  cases hr with
  | cons hv hr =>
   rename_i c cs
   have key : ∃ z, x = .int .u8 z := by
    cases x with
    | int k z => cases k <;> first | exact ⟨z, rfl⟩ | (simp [buildB] at hb; done)
    | _ => simp [buildB] at hb
   obtain ⟨z, rfl⟩ := key
   simp only [buildB] at hb
   obtain ⟨hx, hb⟩ := ofBif hb
   have hlt : j < l.length := by have : j < n := Nat.le_of_ble_eq_true hx; omega
   obtain ⟨rfl, hz⟩ := hv.int_inv
   have hsp : l.map bv = (l.take j).map bv ++ ([bv l[j]] ++ (l.drop (j + 1)).map bv) := by
    rw [← List.map_singleton, ← List.map_append, ← List.map_append]
    congr 1
    simp
   rw [hsp, fill_step (zs := [Value.int .u8 z]) (hp j) rfl (by simp; omega) rfl rfl]
   have e : (l.take j).map bv ++ ([Value.int .u8 z] ++ (l.drop (j + 1)).map bv) = (l.set j (u8 z)).map bv := by
    rw [set_split hlt, List.map_append, List.map_cons, bv_u8 (hz rfl)]
    rfl
   rw [e]
   rw [setL_eq] at hb
   exact fill_bytes hp ps cs _ l' hr (by rw [List.length_set]; exact hn) hb
theorem mapM_some {α β : Type} {g : α → Option β} {h : α → β} : ∀ (l : List α), (∀ x ∈ l, g x = some (h x)) → l.mapM g = some (l.map h)
 | [], _ => rfl
 | x :: l, hx => by simp [hx x (by simp), mapM_some l (fun y hy => hx y (by simp [hy]))]
theorem fldOff_all {k : Nat} : ∀ {ss : List Sh} {j : Nat}, (∀ s ∈ ss, s.size = k) → j ≤ ss.length → fldOff ss j = j * k
  | [], j, _, h => by obtain rfl : j = 0 := by simpa using h
                      simp [fldOff]
  | s :: r, 0, _, _ => by simp [fldOff]
  | s :: r, j + 1, hs, h => by
    rw [fldOff, hs s List.mem_cons_self, fldOff_all (fun x hx => hs x (List.mem_cons_of_mem _ hx)) (by simpa using h), Nat.succ_mul, Nat.add_comm]
theorem op_build {X : Nat → Prop} {t : TypeId} {sh : Sh} {ps : List (Nat × V)} {cs : Array (Nat × Value)} {v : V} (hz : zOk P t sh = true) (hpl : plcOk P t sh = true) (hr : PRep ι X w ps cs.toList) (hb : buildV sh ps = some v) :
  ∃ d, (Instr.build t cs).run P w = .ok d w ∧ VRep ι X w v d := by
 obtain ⟨z, hz1, hz2, hz3, hz4, hz5⟩ := zOk_spec hz
 clear hz4 hz5
 cases hit : P.info? t with
 | none => simp [hit] at hz1
 | some it =>
  have hz1' : it.zero = some z := by simpa [hit] using hz1
  have hzc : z.cells = (zeroC sh).toArray := by rw [← hz2]
  unfold plcOk at hpl
  split at hpl
  ·rename_i fs ss hu
   simp only [Bool.and_eq_true, List.all_eq_true, List.mem_range] at hpl
   obtain ⟨h1, h2⟩ := hpl
   have h1 := Nat.eq_of_beq_eq_true h1
   simp only [buildV] at hb
   obtain ⟨l', hbb, rfl⟩ := Option.map_eq_some_iff.1 hb
   have hget : ∀ j s, nthL ss j = some s → ∃ f, fs[j]? = some f ∧ f.offset = fldOff ss j ∧ (P.info? f.type).map (·.size) = some s.size := by
    intro j s hj
    have hlt : j < ss.length := by
     rw [nthL_eq] at hj
     exact (List.getElem?_eq_some_iff.1 hj).1
    obtain ⟨fs', f, k1, k2, k3, k4, _⟩ := offOk_spec (h2 j hlt) hj
    rw [hu] at k1; injection k1 with k1; injection k1 with k1; subst k1
    exact ⟨f, k2, k3, k4⟩
   have hpm : fs.toList.mapM (fun f => (P.info? f.type).map fun i => (f.offset, i.size)) = some (fs.toList.map fun f => (f.offset, ((P.info? f.type).map (·.size)).getD 0)) := by
    apply mapM_some
    intro f hf
    obtain ⟨j, hj⟩ := List.getElem?_of_mem hf
    have hlt : j < ss.length := by
     have := (List.getElem?_eq_some_iff.1 hj).1
     simp at this; omega
    obtain ⟨f', k1, _, k2⟩ := hget j ss[j] (by rw [nthL_eq]; exact List.getElem?_eq_getElem hlt)
    rw [← Array.getElem?_toList, hj] at k1
    injection k1 with k1; subst k1
    cases hq : P.info? f.type with
    | none => simp [hq] at k2
    | some i => simp
   obtain ⟨q1, q2⟩ := zeroVs_rep (ι := ι) (w := w) ss (X := X) (by simpa [zGood] using hz3)
   obtain ⟨ds', r1, r2⟩ := fill_struct (place := fun j => (fs.toList.map fun f => (f.offset, ((P.info? f.type).map (·.size)).getD 0)).toArray[j]?) (fun j s hj => by
    obtain ⟨f, k1, k2, k3⟩ := hget j s hj
    rw [← Array.getElem?_toList] at k1
    simp only [List.getElem?_toArray, List.getElem?_map, k1, Option.map_some, k2, k3, Option.getD_some]) ps cs.toList _ l' _ hr q2 q1 hbb
   refine ⟨.agg ds'.toArray, run_build w t cs ds'.toArray ?_, .agg (.agg r2) rfl⟩
   unfold Program.built
   simp only [hit, hu, hz1', hpm]
   rw [hzc]
   exact r1
  ·rename_i m e n hu
   simp only [Bool.and_eq_true] at hpl
   have h1 := Nat.eq_of_beq_eq_true hpl.1
   obtain ⟨h2, _⟩ := szOk_spec hpl.2
   simp only [buildV] at hb
   obtain ⟨l', hbb, rfl⟩ := Option.map_eq_some_iff.1 hb
   have hzz : zeroC (.barr n) = (List.replicate n (0 : UInt8)).map bv := by simp [zeroC, bv]
   cases hie : P.info? e with
   | none => simp [hie] at h2
   | some ie =>
    simp [hie, Sh.size] at h2
    obtain ⟨r1, r2⟩ := fill_bytes (ι := ι) (w := w) (X := X) (place := fun i => some (i * ie.size, ie.size)) (fun j => by rw [h2]) ps cs.toList _ l' hr (by simp) hbb
    refine ⟨.agg (l'.map bv).toArray, run_build w t cs _ ?_, .agg (.barr r2) rfl⟩
    unfold Program.built
    simp only [hit, hu, hz1', hie]
    rw [hzc, hzz]
    exact r1
  ·rename_i m e n s hu
   simp only [Bool.and_eq_true] at hpl
   have h1 := Nat.eq_of_beq_eq_true hpl.1
   obtain ⟨h2, _⟩ := szOk_spec hpl.2
   simp only [buildV] at hb
   obtain ⟨l', hbb, rfl⟩ := Option.map_eq_some_iff.1 hb
   have hz := zeroR_rep (ι := ι) (w := w) (.arr n s) (X := X) hz3
   cases hz with
   | arr _ g1 g2 =>
    cases hie : P.info? e with
    | none => simp [hie] at h2
    | some ie =>
     simp [hie] at h2
     obtain ⟨ds', r1, r2, r3, r4⟩ := fill_arr (place := fun i => some (i * ie.size, ie.size)) (fun j => by rw [h2]) ps cs.toList _ l' _ hr g1 g2 hbb
     refine ⟨.agg ds'.toArray, run_build w t cs _ ?_, .agg (.arr (by simpa using r4) r3 r2) rfl⟩
     unfold Program.built
     simp only [hit, hu, hz1', hie]
     rw [hzc]
     exact r1
  ·rename_i m e ss hu
   simp only [Bool.and_eq_true, List.all_eq_true] at hpl
   obtain ⟨⟨_, h0⟩, h2⟩ := hpl
   simp only [buildV] at hb
   obtain ⟨l', hbb, rfl⟩ := Option.map_eq_some_iff.1 hb
   obtain ⟨q1, q2⟩ := zeroVs_rep (ι := ι) (w := w) ss (X := X) (by simpa [zGood] using hz3)
   cases hie : P.info? e with
   | none =>
    cases ss with
    | nil => cases h0
    | cons s r => have := (szOk_spec (h2 s List.mem_cons_self)).1; simp [hie] at this
   | some ie =>
    have hsz : ∀ s ∈ ss, s.size = ie.size := fun s hs => by
     have := (szOk_spec (h2 s hs)).1
     simp [hie] at this
     exact this.symm
    obtain ⟨ds', r1, r2⟩ := fill_struct (place := fun i => some (i * ie.size, ie.size)) (fun j s hj => by
     rw [nthL_eq] at hj
     obtain ⟨hlt, rfl⟩ := List.getElem?_eq_some_iff.1 hj
     rw [fldOff_all hsz (Nat.le_of_lt hlt), hsz _ (List.getElem_mem hlt)]) ps cs.toList _ l' _ hr q2 q1 hbb
    refine ⟨.agg ds'.toArray, run_build w t cs ds'.toArray ?_, .agg (.agg r2) rfl⟩
    unfold Program.built
    simp only [hit, hu, hz1', hie]
    rw [hzc]
    exact r1
  ·cases hpl
theorem post_row (h : HSim ι O w0 hp w) {nid : Nat} (hn : ι nid = none) {T : TypeId} {sh : Sh} {v : V} {w' : World} {n c : Nat} {ds : List Value} (hb : Below w.heap.size w w')
  (ho : w'.ownsRow w.heap.size T sh.size (.slice (some ⟨w.heap.size, 0, none⟩) n c) n ds) (hr : RowC ι (Ex1 ι hp O) w n sh v ds) :
  Post ι O w0 hp w nid (.own nid n sh) [(nid, some (.row T sh v))] w' (.slice (some ⟨w.heap.size, 0, none⟩) n c) := by
 obtain ⟨a1, a2, a3⟩ := h.newRow (w' := w') (nid := nid) hn [] T sh v (A := some ⟨w.heap.size, 0, none⟩) (n := n) (c := c) (ds := ds) (h.keeps hb) (fun b hlt _ => hb.block b hlt) (fun a ha => by
  injection ha with ha; subst ha; exact .inr (Nat.le_refl _)) (ownsRow_base ho (Nat.zero_le _))
 refine ⟨updI ι nid (.row (some ⟨w.heap.size, 0, none⟩) n c T sh), a3 (hr.ext a1), a1, .one (.own updI_self (fun _ => ⟨_, rfl⟩) (own_caps ho)) rfl, fun id hid => ?_⟩
 unfold updI; rw [if_neg hid]
theorem op_make (h : HSim ι O w0 hp w) {nid : Nat} (hn : ι nid = none) {t T b : Nat} {n : Int} (he : elOf P t (.int .u8) = some (T, b)) (hz : zOk P T (.int .u8) = true) (h0 : 0 ≤ n) (h1 : n ≤ 9223372036854775807) (h2 : b * n.toNat ≤ 281474976710656) :
  ∃ c w', (Instr.makeSlice t (.int .i64 n) (.int .i64 n)).run P w = .ok c w' ∧ Post ι O w0 hp w nid (.own nid n.toNat (.int .u8)) [(nid, some (.row T (.int .u8) (.bytes (List.replicate n.toNat 0))))] w' c := by
 obtain ⟨i, z, hu, hi, hz1, e1, e2, _, e4, _⟩ := elOf_spec he
 obtain ⟨z', hz2, hz3, _⟩ := zOk_spec hz
 have : z' = z := by simp [hi, hz1] at hz2; exact hz2.symm
 subst this
 obtain ⟨m, rfl⟩ := Int.eq_ofNat_of_zero_le h0
 simp only [Int.toNat_natCast] at h2 ⊢
 obtain ⟨w', hrun, ho, hg⟩ := run_make_full (P := P) w w.heap.size t T i z' (Sh.int IntKind.u8).size hu hi hz1 e1 .i64 .i64 m (by rw [e4]; exact h2) (by unfold maxLen; omega) (Nat.le_refl _)
 refine ⟨_, w', hrun, post_row h hn ((Below.refl _ _).grown hg (Nat.le_refl _) (fun _ h => by cases h)) ho ?_⟩
 have hc : z'.cells = #[.int .u8 0] := by
  apply Array.ext'
  rw [hz3]; rfl
 have e : (madeCells z'.cells (m * (Sh.int IntKind.u8).size)).toList = (List.replicate m (0 : UInt8)).map bv := by
  rw [hc]
  simp only [Sh.size, Nat.mul_one]
  rw [toList_madeCells_one, List.map_replicate]
  rfl
 rw [e]
 have := RowC.bytes (ι := ι) (O := Ex1 ι hp O) (w := w) (l := List.replicate m (0 : UInt8))
 rwa [List.length_replicate] at this
theorem made_len (z : Array Value) (m sz : Nat) (hz : z.size = sz) (h0 : 0 < sz) : ((Array.range (m * sz)).map (z[· % z.size]!)).toList = (List.replicate m z.toList).flatten := by
 subst hz
 simp only [Array.toList_map, Array.toList_range]
 induction m with
 | zero => simp
 | succ m ih =>
  rw [List.replicate_succ', List.flatten_append, ← ih, Nat.add_mul, Nat.one_mul, List.range_add, List.map_append]
  congr 1
  simp only [List.flatten_cons, List.flatten_nil, List.append_nil, List.map_map]
  apply List.ext_getElem
  ·simp
  ·intro i h1 h2
   have hi : i < z.size := by simpa using h2
   have hm : (m * z.size + i) % z.size = i := by rw [Nat.mul_comm, Nat.mul_add_mod, Nat.mod_eq_of_lt hi]
   simp [hm, hi]
theorem run_buildSlice {t T : Nat} {sh : Sh} {b n : Nat} {ps : Array (Nat × Value)} {ds : List Value} (he : elOf P t sh = some (T, b)) (hz : zOk P T sh = true) (hn : n * sh.size ≤ 16777216)
  (hf : Instr.fill (fun i => some (i * sh.size, sh.size)) (List.replicate n (zeroC sh)).flatten.toArray ps.toList = some ds.toArray) :
  (Instr.buildSlice t n ps).run P w = .ok (.slice (some ⟨w.heap.size, 0, none⟩) n n) (w.alloc (.cells ds.toArray T)) := by
 obtain ⟨i, z, hu, hi, hz1, e1, e2, e3, _, _⟩ := elOf_spec he
 obtain ⟨z', hz2, hz3, _⟩ := zOk_spec hz
 have : z' = z := by simp [hi, hz1] at hz2; exact hz2.symm
 subst this
 have hc := made_len z'.cells n sh.size e2 e3
 rw [hz3] at hc
 rw [← hc] at hf
 simp only [Array.toArray_toList] at hf
 have hb : ¬ n * sh.size > 16777216 := by omega
 by_cases hz0 : n * sh.size = 0
 ·have hn0 : n = 0 := by
   rcases Nat.mul_eq_zero.1 hz0 with h | h
   ·exact h
   ·omega
  subst hn0
  simp only [Nat.zero_mul] at hf
  simp [Instr.buildSlice, run_underlying hu, sizeOf, typeInfo, hi, e1, newRow]
  rw [show Array.range 0 = #[] from rfl] at hf ⊢
  simp only [Array.map_empty] at hf ⊢
  rw [hf]
  simp [newObj, Sem.run]
 ·simp [Instr.buildSlice, run_underlying hu, sizeOf, typeInfo, hi, e1, hb, zeroValue, hz1, newRow, hz0, hf]
theorem op_buildB (h : HSim ι O w0 hp w) {nid : Nat} (hn : ι nid = none) {t T b n : Nat} {ps : List (Nat × V)} {cs : Array (Nat × Value)} {l : List UInt8} (he : elOf P t (.int .u8) = some (T, b)) (hz : zOk P T (.int .u8) = true) (hsz : n ≤ 16777216)
  (hr : PRep ι (Ex1 ι hp O) w ps cs.toList) (hb : buildB n (List.replicate n 0) ps = some l) :
  ∃ c w', (Instr.buildSlice t n cs).run P w = .ok c w' ∧ Post ι O w0 hp w nid (.own nid n (.int .u8)) [(nid, some (.row T (.int .u8) (.bytes l)))] w' c := by
 obtain ⟨r1, r2⟩ := fill_bytes (place := fun i => some (i * (Sh.int IntKind.u8).size, (Sh.int IntKind.u8).size)) (fun j => rfl) ps cs.toList _ l hr (by simp) hb
 have hrun := run_buildSlice (w := w) (ps := cs) (n := n) (ds := l.map bv) he hz (by simp only [Sh.size]; omega) (by
  have : (List.replicate n (zeroC (.int .u8))).flatten = (List.replicate n (0 : UInt8)).map bv := by
   clear r1 r2 hsz hb
   induction n with
   | zero => rfl
   | succ n ih => rw [List.replicate_succ, List.flatten_cons, ih]; rfl
  rw [this]; exact r1)
 subst r2
 refine ⟨_, _, hrun, post_row h hn ((Below.refl _ _).alloc (Nat.le_refl _) _) ?_ .bytes⟩
 have hown := Own.made (base := w.heap.size) w T l (l.map bv).toArray (by simp) (by omega) (Nat.le_refl _)
 exact hown.2
theorem op_buildR (h : HSim ι O w0 hp w) {nid : Nat} (hn : ι nid = none) {t T b n : Nat} {e : Sh} {vs xs : List V} {ks : List Nat} {cs : Array (Nat × Value)} {l : List V} (he : elOf P t e = some (T, b)) (hz : zOk P T e = true) (hR : isR e (zeroR e) = true) (hsz : n * e.size ≤ 16777216)
  (hv : VReps ι (Ex1 ι hp O) w vs (cs.toList.map (·.2))) (hk : cs.toList.map (·.1) = ks) (hlow : lows false hp (List.replicate vs.length e) vs = some xs) (hb : buildA e (List.replicate n (zeroR e)) (ks.zip xs) = some l) :
  ∃ c w', (Instr.buildSlice t n cs).run P w = .ok c w' ∧ Post ι O w0 hp w nid (.own nid n e) ((nid, some (.row T e (.rows e l))) :: sealB hp (idss vs)) w' c := by
 obtain ⟨hs, hx⟩ := h.seals (idss vs)
 have hlr := lows_rep h hx vs hlow (Lent.seal h _) LentV.no hv
 have hpr : PRep no (Ex1 ι (updH (sealB hp (idss vs)) hp) O) w (ks.zip xs) cs.toList := by
  clear hb hlow
  subst hk
  generalize cs.toList = cl at hlr ⊢
  induction cl generalizing xs with
  | nil => cases hlr; exact .nil
  | cons p cl ih =>
   cases hlr with
   | cons a b => exact .cons a (ih b)
 obtain ⟨z, _, hz3, hz4, _⟩ := zOk_spec hz
 have hz0 : CReps no (Ex1 ι (updH (sealB hp (idss vs)) hp) O) w (List.replicate n (zeroR e)) (List.replicate n (zeroC e)).flatten := by
  clear hb hsz
  induction n with
  | zero => exact .nil
  | succ n ih => rw [List.replicate_succ, List.replicate_succ, List.flatten_cons]; exact .cons (zeroR_rep e hz4) ih
 obtain ⟨ds, r1, r2, r3, r4⟩ := fill_arr (place := fun i => some (i * e.size, e.size)) (fun j => rfl) (ks.zip xs) cs.toList _ l _ hpr (fun y hy => by rw [List.eq_of_mem_replicate hy]; exact hR) hz0 hb
 have hln : l.length = n := by simpa using r4
 subst hln
 have hrun := run_buildSlice (w := w) (ps := cs) (n := l.length) (ds := ds) he hz hsz r1
 have r2' : CReps ι (Ex1 ι (updH (sealB hp (idss vs)) hp) O) w l ds := CReps.any_of (fun p q => CRep.any p q) r2 r3
 have hrc : RowC ι (Ex1 ι (updH (sealB hp (idss vs)) hp) O) w l.length e (.rows e l) ds := .rows r3 r2'
 have hpos : 0 < e.size := by obtain ⟨_, _, _, _, _, _, _, h3, _⟩ := elOf_spec he; exact h3
 have hll : l.length ≤ l.length * e.size := Nat.le_mul_of_pos_right _ hpos
 have hown : (w.alloc (.cells ds.toArray T)).ownsRow w.heap.size T e.size (.slice (some ⟨w.heap.size, 0, none⟩) l.length l.length) l.length ds := by
  have := World.ownsRow_lit (e := T) (size := e.size) w ds.toArray l.length (Nat.le_refl _) (by unfold maxLen; omega) (by simp [hrc.len])
  simpa using this
 obtain ⟨ι', p1, p2, p3, p4⟩ := post_row hs hn ((Below.refl _ _).alloc (Nat.le_refl _) _) hown hrc
 refine ⟨_, _, hrun, ι', ?_, ?_, ?_, p4⟩
 ·rw [updH_cons]; exact p1
 ·rw [updH_cons]; exact hx.trans p2
 ·rw [updH_cons]; exact p3
end
end Go.Am
namespace Go.Am
open Go Go.RowKit Go.Bas
section
variable {ι : Nat → Option Cn} {O : Nat → Prop} {w0 : Zone} {w : World} {hp : Nat → Option Blk} {P : Program} {X : Nat → Prop}
theorem VRep.one_of {x : V} {c : Value} (h : VRep ι X w x c) (ho : oneV x = true) : CRep ι X w x [c] := by
 cases h with
 | one h _ => exact h
 | agg _ ha => cases x <;> first | (cases ho; done) | cases ha
 | tup => cases ho
 | void => cases ho
 | undef => cases ho
theorem VRep.ifc_inv {t : TypeId} {v : V} {c : Value} (h : VRep ι X w (.ifc t v) c) : ∃ d, c = .iface t d ∧ CRep ι X w v [d] := by
 cases h with
 | agg _ ha => cases ha
 | one h _ => cases h with | ifc h => exact ⟨_, rfl, h⟩
theorem VRep.mv_inv {m : String} {t : TypeId} {v : V} {c : Value} (h : VRep ι X w (.mv m t v) c) : ∃ d, c = .func (.method m) #[.iface t d] #[] := by
 cases h with
 | agg _ ha => cases ha
 | one h _ => cases h with | mv h => exact ⟨_, rfl⟩
theorem mthOf_spec {t : TypeId} {m : String} {f : FuncId} {pr : Bool} (h : mthOf P t m = some (f, pr)) :
  ∃ i me d, P.info? t = some i ∧ i.methods.find? (fun x => x.name == m) = some me ∧ me.func = some (f, pr) ∧ me.path.toList = [] ∧ P.underlying t = some d ∧ ((∃ e, d = .pointer e) ∧ pr = true ∨ (∀ e, d ≠ .pointer e) ∧ pr = false) := by
 unfold mthOf at h
 split at h
 ·rename_i i hi
  split at h
  ·rename_i me hme
   split at h
   ·rename_i f' pr' hf
    obtain ⟨hb, h⟩ := ofBif h
    injection h with h; injection h with e1 e2; subst e1; subst e2
    simp only [Bool.and_eq_true] at hb
    have hp : me.path.toList = [] := List.isEmpty_iff.1 hb.1
    cases hu : P.underlying t with
    | none => rw [hu] at hb; cases hb.2
    | some d =>
     refine ⟨i, me, d, hi, by rw [← Array.find?_toList]; exact hme, hf, hp, rfl, ?_⟩
     have h2 := hb.2
     rw [hu] at h2
     cases d with
     | pointer e => exact .inl ⟨⟨e, rfl⟩, h2⟩
     | _ => exact .inr ⟨fun e he => (by cases he), by simpa using h2⟩
   ·cases h
  ·cases h
 ·cases h
theorem run_method {t : TypeId} {m : String} {f : FuncId} {pr : Bool} (h : mthOf P t m = some (f, pr)) (k : Nat) (c : Value) : (method (k + 1) t c m).run P w = .ok (f, c) w := by
 obtain ⟨i, me, d, hi, hme, hf, hp, hu, hd⟩ := mthOf_spec h
 unfold method
 simp [typeInfo, hi, hme, hp, follow, hf]
 rcases hd with ⟨⟨e, rfl⟩, rfl⟩ | ⟨hd, rfl⟩
 ·simp [receiverAt, run_underlying hu, Place.get]
 ·cases d with
  | pointer e => exact absurd rfl (hd e)
  | _ => simp [receiverAt, run_underlying hu, Place.get]
theorem run_nilAhead {t : TypeId} {m : String} {f : FuncId} (h : mthOf P t m = some (f, true)) (k : Nat) (c : Value) : (nilAhead (k + 1) t c m).run P w = .ok (some false) w := by
 obtain ⟨i, me, d, hi, hme, hf, hp, hu, hd⟩ := mthOf_spec h
 unfold nilAhead
 simp [typeInfo, hi, hme, hp, followBlind, hf]
theorem run_invoke {t : TypeId} {m : String} {f : FuncId} {pr : Bool} (h : mthOf P t m = some (f, pr)) {c : Value} {cs : List Value} : (callMethod (.iface t c) m cs.toArray).run P w = (callFunc f (c :: cs).toArray).run P w := by
 have e : P.types.size + Made.depth = (P.types.size + 99) + 1 := rfl
 unfold callMethod
 simp only [Sem.run_bind, run_program, Result.andThen_ok]
 rw [e, run_method h]
 simp
theorem ptrZero_run {t : TypeId} (h : ptrZero P t = true) : (zeroValue t).run P w = .ok (.pointer none) w := by
 unfold ptrZero at h
 split at h
 ·rename_i i hi
  split at h
  ·rename_i hz
   simp [zeroValue, typeInfo, hi, hz]
  ·cases h
 ·cases h
theorem run_eq_ptr {t e : TypeId} (hu : P.underlying t = some (.pointer e)) (a : Option Addr) : (Op.equal t (.pointer a) (.pointer none)).run P w = .ok a.isNone w := by
 unfold Op.equal Op.maxDepth
 rw [show (10000 : Nat) = 9999 + 1 from rfl, Op.equalIn]
 cases a <;> simp [run_underlying hu]
theorem run_eq_sl {t e : TypeId} (hu : P.underlying t = some (.slice e)) (a : Option Addr) (n c : Nat) : (Op.equal t (.slice a n c) (.slice none 0 0)).run P w = .ok a.isNone w := by
 unfold Op.equal Op.maxDepth
 rw [show (10000 : Nat) = 9999 + 1 from rfl, Op.equalIn]
 cases a <;> simp [run_underlying hu]
theorem run_eq_if {t : TypeId} {ms} (hu : P.underlying t = some (.interface ms)) (u : TypeId) (c : Value) : (Op.equal t (.iface u c) .nilIface).run P w = .ok false w := by
 unfold Op.equal Op.maxDepth
 rw [show (10000 : Nat) = 9999 + 1 from rfl, Op.equalIn]
 simp [run_underlying hu]
theorem run_eq_in {t : TypeId} {ms} (hu : P.underlying t = some (.interface ms)) : (Op.equal t .nilIface .nilIface).run P w = .ok true w := by
 unfold Op.equal Op.maxDepth
 rw [show (10000 : Nat) = 9999 + 1 from rfl, Op.equalIn]
 simp [run_underlying hu]
theorem nilRun {op : BinOp} {t : TypeId} {xo yo : Operand} {a b : Value} {r : Bool} (hq : op = .eql ∨ op = .neq) (hg : (eqGuard op t xo yo a b).run P w = .ok () w) (hb : ∀ op, op = .eql ∨ op = .neq → binOp op t a b = (match op with | .eql => (do pure (.bool (← Op.equal t a b))) | _ => (do pure (.bool (!(← Op.equal t a b)))))) (he : (Op.equal t a b).run P w = .ok r w) :
  (do eqGuard op t xo yo a b; binOp op t a b : Sem Value).run P w = .ok (.bool (match op with | .eql => r | _ => !r)) w := by
 rw [Sem.run_bind, hg, Result.andThen_ok, hb op hq]
 rcases hq with rfl | rfl <;> simp [he]
theorem guard_ptr {op : BinOp} {t : TypeId} {xo yo : Operand} {a b : Option Addr} : (eqGuard op t xo yo (.pointer a) (.pointer b)).run P w = .ok () w := by
 unfold eqGuard
 cases op <;> simp
theorem guard_sl {op : BinOp} {t : TypeId} {xo yo : Operand} {a b : Option Addr} {n c m d : Nat} : (eqGuard op t xo yo (.slice a n c) (.slice b m d)).run P w = .ok () w := by
 unfold eqGuard
 cases op <;> simp
theorem guard_if {op : BinOp} {t : TypeId} {xo yo : Operand} {u : TypeId} {c : Value} : (eqGuard op t xo yo (.iface u c) .nilIface).run P w = .ok () w := by
 unfold eqGuard
 cases op <;> simp
theorem guard_in {op : BinOp} {t : TypeId} {xo : Operand} : (eqGuard op t xo (.const .nilIface) .nilIface .nilIface).run P w = .ok () w := by
 unfold eqGuard
 cases op <;> simp
theorem bin_ptr {t : TypeId} {a b : Option Addr} : ∀ op, op = .eql ∨ op = .neq → binOp op t (.pointer a) (.pointer b) = (match op with | .eql => (do pure (.bool (← Op.equal t (.pointer a) (.pointer b)))) | _ => (do pure (.bool (!(← Op.equal t (.pointer a) (.pointer b)))))) := by
 rintro op (rfl | rfl) <;> rfl
theorem bin_sl {t : TypeId} {a b : Option Addr} {n c m d : Nat} : ∀ op, op = .eql ∨ op = .neq → binOp op t (.slice a n c) (.slice b m d) = (match op with | .eql => (do pure (.bool (← Op.equal t (.slice a n c) (.slice b m d)))) | _ => (do pure (.bool (!(← Op.equal t (.slice a n c) (.slice b m d)))))) := by
 rintro op (rfl | rfl) <;> rfl
theorem bin_if {t u : TypeId} {c : Value} : ∀ op, op = .eql ∨ op = .neq → binOp op t (.iface u c) .nilIface = (match op with | .eql => (do pure (.bool (← Op.equal t (.iface u c) .nilIface))) | _ => (do pure (.bool (!(← Op.equal t (.iface u c) .nilIface))))) := by
 rintro op (rfl | rfl) <;> rfl
theorem bin_in {t : TypeId} : ∀ op, op = .eql ∨ op = .neq → binOp op t .nilIface .nilIface = (match op with | .eql => (do pure (.bool (← Op.equal t .nilIface .nilIface))) | _ => (do pure (.bool (!(← Op.equal t .nilIface .nilIface))))) := by
 rintro op (rfl | rfl) <;> rfl
theorem run_asrt_hit {t xt : TypeId} {c : Value} {d : TypeDesc} (hu : P.underlying t = some d) (hd : ∀ ms, d ≠ .interface ms) (ok : Bool) : (Instr.typeAssert (.iface t c) xt t ok).run P w = .ok (if ok then .tuple #[c, .bool true] else c) w := by
 cases d with
 | interface ms => exact absurd rfl (hd ms)
 | _ => cases ok <;> simp [Instr.typeAssert, run_underlying hu]
theorem run_asrt_miss {t xt u : TypeId} {c : Value} {d : TypeDesc} (hu : P.underlying t = some d) (hd : ∀ ms, d ≠ .interface ms) (hne : u ≠ t) (hz : ptrZero P t = true) : (Instr.typeAssert (.iface u c) xt t true).run P w = .ok (.tuple #[.pointer none, .bool false]) w := by
 have hz := ptrZero_run (w := w) hz
 cases d with
 | interface ms => exact absurd rfl (hd ms)
 | _ => simp [Instr.typeAssert, run_underlying hu, hne, hz]
theorem run_asrt_nil {t xt : TypeId} {d : TypeDesc} (hu : P.underlying t = some d) (hd : ∀ ms, d ≠ .interface ms) (hz : ptrZero P t = true) : (Instr.typeAssert .nilIface xt t true).run P w = .ok (.tuple #[.pointer none, .bool false]) w := by
 have hz := ptrZero_run (w := w) hz
 cases d with
 | interface ms => exact absurd rfl (hd ms)
 | _ => simp [Instr.typeAssert, run_underlying hu, hz]
theorem op_ifc {t : TypeId} {x : V} {c : Value} {d : TypeDesc} (hu : P.underlying t = some d) (hd : ∀ ms, d ≠ .interface ms) (hx : VRep ι X w x c) (ho : oneV x = true) :
  (Instr.makeInterface t c).run P w = .ok (.iface t c) w ∧ VRep ι X w (.ifc t x) (.iface t c) := by
 refine ⟨?_, .one (.ifc (hx.one_of ho)) rfl⟩
 cases d with
 | interface ms => exact absurd rfl (hd ms)
 | _ => simp [Instr.makeInterface, run_underlying hu]
theorem op_cmpNil {t : TypeId} {op : BinOp} {xo yo : Operand} {x y : V} {a b : Value} {r : Res} (hx : VRep ι X w x a) (hy : VRep ι X w y b) (ht : nilTy P t y = true) (h : cmpNil op yo x y = some r) (hob : r.ob = true) :
  ∃ d, (do eqGuard op t xo yo a b; binOp op t a b : Sem Value).run P w = .ok d w ∧ VRep ι X w r.v d ∧ r.wr = [] := by
 have nilI : ∀ {z : V} {c : Value}, VRep ι X w z c → z = .nil .iface → c = .nilIface := by
  rintro z c hz rfl
  cases hz with
  | agg _ ha => cases ha
  | one h _ => cases h; rfl
 have nilP : ∀ {z : V} {c : Value}, VRep ι X w z c → z = .nil .ptr → c = .pointer none := by
  rintro z c hz rfl
  cases hz with
  | agg _ ha => cases ha
  | one h _ => cases h; rfl
 have rowA : ∀ {e : Sh} {l : List V} {c : Value}, VRep ι X w (.rows e l) c → 0 < l.length → ∃ b n k, c = .slice (some b) n k := by
  intro e l c hz h0
  cases hz with
  | agg _ ha => cases ha
  | one h _ =>
   cases h with
   | rows _ _ _ _ _ h6 =>
    obtain ⟨b, off, rfl, _⟩ := h6 (by rintro rfl; simp at h0)
    exact ⟨_, _, _, rfl⟩
 have bytA : ∀ {l : List UInt8} {c : Value}, VRep ι X w (.bytes l) c → 0 < l.length → ∃ b n k, c = .slice (some b) n k := by
  intro l c hz h0
  obtain ⟨A, n, k, rfl, hb, _⟩ := hz.bytes_inv
  obtain ⟨b, off, rfl, _⟩ := hb.at_ h0
  exact ⟨_, _, _, rfl⟩
 have ownA : ∀ {id n : Nat} {sh : Sh} {c : Value}, VRep ι X w (.own id n sh) c → 0 < n → ∃ b m k, c = .slice (some b) m k := by
  intro id n sh c hz h0
  obtain ⟨A, c', T, rfl, hi, hA⟩ := hz.own_inv
  obtain ⟨g, rfl⟩ := hA h0
  exact ⟨_, _, _, rfl⟩
 have fin : ∀ {q : Bool} {d : Value}, d = .bool q → VRep ι X w (.bool q) d := by rintro q d rfl; exact VRep.b
 have lt : ∀ {n : Nat}, Nat.blt 0 n = true → 0 < n := fun h => Nat.le_of_ble_eq_true h
 unfold nilTy at ht
 unfold cmpNil at h
 split at ht
 ·rename_i ms hu
  obtain rfl := nilI hy rfl
  split at h <;> first | (cases h; done) | (have hq := ‹V.nil NK.iface = V.nil NK.ptr›; cases hq; done) | (have hq := ‹V.nil NK.iface = V.nils›; cases hq; done) | skip
  ·injection h with h; subst h; obtain ⟨d, rfl, _⟩ := hx.ifc_inv; exact ⟨_, nilRun (.inl rfl) guard_if bin_if (run_eq_if hu _ _), VRep.b, rfl⟩
  ·injection h with h; subst h; obtain ⟨d, rfl, _⟩ := hx.ifc_inv; exact ⟨_, nilRun (.inr rfl) guard_if bin_if (run_eq_if hu _ _), VRep.b, rfl⟩
  ·injection h with h; subst h; obtain rfl := nilI hx rfl; exact ⟨_, nilRun (.inl rfl) guard_in bin_in (run_eq_in hu), VRep.b, rfl⟩
  ·injection h with h; subst h; obtain rfl := nilI hx rfl; exact ⟨_, nilRun (.inr rfl) guard_in bin_in (run_eq_in hu), VRep.b, rfl⟩
 ·rename_i e hu
  obtain rfl := nilP hy rfl
  split at h <;> first | (cases h; done) | (have hq := ‹V.nil NK.ptr = V.nil NK.iface›; cases hq; done) | (have hq := ‹V.nil NK.ptr = V.nils›; cases hq; done) | (have hq := ‹V.nils = V.nil NK.iface›; cases hq; done) | (have hq := ‹V.nils = V.nil NK.ptr›; cases hq; done) | skip
  ·injection h with h; subst h; obtain ⟨g, rfl, _⟩ := hx.ref_inv; exact ⟨_, nilRun (.inl rfl) guard_ptr bin_ptr (run_eq_ptr hu _), VRep.b, rfl⟩
  ·injection h with h; subst h; obtain ⟨g, rfl, _⟩ := hx.ref_inv; exact ⟨_, nilRun (.inr rfl) guard_ptr bin_ptr (run_eq_ptr hu _), VRep.b, rfl⟩
  ·injection h with h; subst h; obtain ⟨b, off, ds, rfl, _⟩ := hx.vref_inv; exact ⟨_, nilRun (.inl rfl) guard_ptr bin_ptr (run_eq_ptr hu _), VRep.b, rfl⟩
  ·injection h with h; subst h; obtain ⟨b, off, ds, rfl, _⟩ := hx.vref_inv; exact ⟨_, nilRun (.inr rfl) guard_ptr bin_ptr (run_eq_ptr hu _), VRep.b, rfl⟩
  ·injection h with h; subst h; obtain rfl := nilP hx rfl; exact ⟨_, nilRun (.inl rfl) guard_ptr bin_ptr (run_eq_ptr hu _), VRep.b, rfl⟩
  ·injection h with h; subst h; obtain rfl := nilP hx rfl; exact ⟨_, nilRun (.inr rfl) guard_ptr bin_ptr (run_eq_ptr hu _), VRep.b, rfl⟩
 ·rename_i e hu
  cases hy.nils_inv
  split at h <;> first | (cases h; done) | (have hq := ‹V.nil NK.ptr = V.nil NK.iface›; cases hq; done) | (have hq := ‹V.nil NK.ptr = V.nils›; cases hq; done) | (have hq := ‹V.nils = V.nil NK.iface›; cases hq; done) | (have hq := ‹V.nils = V.nil NK.ptr›; cases hq; done) | skip
  ·injection h with h; subst h; cases hx.nils_inv; exact ⟨_, nilRun (.inl rfl) guard_sl bin_sl (run_eq_sl hu _ _ _), VRep.b, rfl⟩
  ·injection h with h; subst h; cases hx.nils_inv; exact ⟨_, nilRun (.inr rfl) guard_sl bin_sl (run_eq_sl hu _ _ _), VRep.b, rfl⟩
  ·injection h with h; subst h; obtain ⟨_, _, _, rfl⟩ := ownA hx (lt hob); exact ⟨_, nilRun (.inl rfl) guard_sl bin_sl (run_eq_sl hu _ _ _), VRep.b, rfl⟩
  ·injection h with h; subst h; obtain ⟨_, _, _, rfl⟩ := ownA hx (lt hob); exact ⟨_, nilRun (.inr rfl) guard_sl bin_sl (run_eq_sl hu _ _ _), VRep.b, rfl⟩
  ·injection h with h; subst h; obtain ⟨_, _, _, rfl⟩ := bytA hx (lt hob); exact ⟨_, nilRun (.inl rfl) guard_sl bin_sl (run_eq_sl hu _ _ _), VRep.b, rfl⟩
  ·injection h with h; subst h; obtain ⟨_, _, _, rfl⟩ := bytA hx (lt hob); exact ⟨_, nilRun (.inr rfl) guard_sl bin_sl (run_eq_sl hu _ _ _), VRep.b, rfl⟩
  ·injection h with h; subst h; obtain ⟨_, _, _, rfl⟩ := rowA hx (lt hob); exact ⟨_, nilRun (.inl rfl) guard_sl bin_sl (run_eq_sl hu _ _ _), VRep.b, rfl⟩
  ·injection h with h; subst h; obtain ⟨_, _, _, rfl⟩ := rowA hx (lt hob); exact ⟨_, nilRun (.inr rfl) guard_sl bin_sl (run_eq_sl hu _ _ _), VRep.b, rfl⟩
 ·cases ht
theorem op_asrt {t xt : TypeId} {ok : Bool} {x : V} {c : Value} {r : Res} (hx : VRep ι X w x c) (h : asrt P t ok x = some r) :
  ∃ d, (Instr.typeAssert c xt t ok).run P w = .ok d w ∧ VRep ι X w r.v d ∧ r.wr = [] := by
 unfold asrt at h
 split at h
 ·cases h
 ·rename_i d hd hu
  have hd' : ∀ ms, d ≠ .interface ms := fun ms e => hd ms e
  have nilT : VRep ι X w (.tup [.nil .ptr, .bool false]) (.tuple #[.pointer none, .bool false]) := .tup (cs := [.pointer none, .bool false]) (.cons (.one .nilp rfl) (.cons VRep.b .nil))
  split at h
  ·rename_i u v
   obtain ⟨d', rfl, hv⟩ := hx.ifc_inv
   cases hq : Nat.beq u t with
   | true =>
    rw [hq] at h
    obtain rfl := Nat.eq_of_beq_eq_true hq
    cases ha : v.isAgg with
    | true => rw [ha] at h; cases h
    | false =>
     rw [ha] at h
     cases ok with
     | true => injection h with h; subst h; exact ⟨_, run_asrt_hit hu hd' true, .tup (cs := [d', .bool true]) (.cons (.one hv ha) (.cons VRep.b .nil)), rfl⟩
     | false => injection h with h; subst h; exact ⟨_, run_asrt_hit hu hd' false, .one hv ha, rfl⟩
   | false =>
    rw [hq] at h
    cases ok with
    | false => cases h
    | true =>
     obtain ⟨hz, h⟩ := ofBif h
     injection h with h; subst h
     exact ⟨_, run_asrt_miss hu hd' (fun e => by subst e; simp at hq) hz, nilT, rfl⟩
  ·obtain rfl : c = .nilIface := by
    cases hx with
    | agg _ ha => cases ha
    | one h _ => cases h; rfl
   cases ok with
   | false => cases h
   | true =>
    obtain ⟨hz, h⟩ := ofBif h
    injection h with h; subst h
    exact ⟨_, run_asrt_nil hu hd' hz, nilT, rfl⟩
  ·cases h
 ·cases h
theorem op_buildA (h : HSim ι O w0 hp w) {nid : Nat} (hn : ι nid = none) {t T b n : Nat} {e : Sh} {ps : List (Nat × V)} {cs : Array (Nat × Value)} {l : List V} (he : elOf P t e = some (T, b)) (hz : zOk P T e = true) (hsz : n * e.size ≤ 16777216)
  (hr : PRep ι (Ex1 ι hp O) w ps cs.toList) (hb : buildP isSh (List.replicate n e) (zeroVs (List.replicate n e)) ps = some l) :
  ∃ c w', (Instr.buildSlice t n cs).run P w = .ok c w' ∧ Post ι O w0 hp w nid (.avs nid n e) [(nid, some (.var (.agg (List.replicate n e)) (.agg l)))] w' c := by
 obtain ⟨z, _, hz3, hz4, _⟩ := zOk_spec hz
 have hg : zGoods (List.replicate n e) = true := by
  clear hb hsz
  induction n with
  | zero => rfl
  | succ n ih => rw [List.replicate_succ]; simp only [zGoods, hz4, ih, Bool.and_self]
 obtain ⟨q1, q2⟩ := zeroVs_rep (ι := ι) (w := w) (List.replicate n e) (X := Ex1 ι hp O) hg
 have hzz : zeroCs (List.replicate n e) = (List.replicate n (zeroC e)).flatten := by
  clear hb hsz hg q1 q2
  induction n with
  | zero => rfl
  | succ n ih => rw [List.replicate_succ, List.replicate_succ, List.flatten_cons, zeroCs, ih]
 rw [hzz] at q1
 obtain ⟨ds, r1, r2⟩ := fill_struct (place := fun i => some (i * e.size, e.size)) (fun j s hj => by
  rw [nthL_eq] at hj
  obtain ⟨hlt, hj⟩ := List.getElem?_eq_some_iff.1 hj
  simp at hlt hj
  subst hj
  rw [fldOff_rep (Nat.le_of_lt hlt)]) ps cs.toList _ l _ hr q2 q1 hb
 have hs : isShs (List.replicate n e) l = true := by
  clear r1 r2 q1 hr
  have key : ∀ (ps : List (Nat × V)) (m : List V), isShs (List.replicate n e) m = true → buildP isSh (List.replicate n e) m ps = some l → isShs (List.replicate n e) l = true := by
   intro ps
   induction ps with
   | nil => intro m hm hb; injection hb with hb; subst hb; exact hm
   | cons p ps ih =>
    intro m hm hb
    obtain ⟨j, x⟩ := p
    simp only [buildP] at hb
    cases hj : nthL (List.replicate n e) j with
    | none => rw [hj] at hb; cases hb
    | some s =>
     simp only [hj] at hb
     obtain ⟨hx, hb⟩ := ofBif hb
     exact ih _ (isShs_set hm hj hx) hb
  exact key ps _ q2 hb
 have hrun := run_buildSlice (w := w) (ps := cs) (n := n) (ds := ds) he hz hsz r1
 obtain ⟨h1, h2⟩ := h.newVar hn (.agg (List.replicate n e)) (.agg l) ds T hs (.agg r2)
 refine ⟨_, _, hrun, _, h1, h2, .one (.avs updI_self) rfl, fun id hid => ?_⟩
 unfold updI; rw [if_neg hid]
end
end Go.Am
namespace Go.Am
open Go Go.RowKit Go.Bas
section
variable {ι : Nat → Option Cn} {O : Nat → Prop} {w0 : Zone} {w : World} {hp : Nat → Option Blk} {P : Program}
theorem VReps.nil_inv {X : Nat → Prop} {vs : List V} (h : VReps ι X w vs []) : vs = [] := by cases h; rfl
theorem VReps.to1 {X : Nat → Prop} {vs : List V} {c : Value} (h : VReps ι X w vs [c]) : ∃ v, vs = [v] ∧ VRep ι X w v c := by
 cases h with | cons a b => cases b; exact ⟨_, rfl, a⟩
theorem VReps.to2 {X : Nat → Prop} {vs : List V} {c d : Value} (h : VReps ι X w vs [c, d]) : ∃ u v, vs = [u, v] ∧ VRep ι X w u c ∧ VRep ι X w v d := by
 cases h with | cons a b => obtain ⟨v, rfl, hv⟩ := b.to1; exact ⟨_, _, rfl, a, hv⟩
theorem VReps.to3 {X : Nat → Prop} {vs : List V} {c d e : Value} (h : VReps ι X w vs [c, d, e]) : ∃ u v x, vs = [u, v, x] ∧ VRep ι X w u c ∧ VRep ι X w v d ∧ VRep ι X w x e := by
 cases h with | cons a b => obtain ⟨v, x, rfl, hv, hx⟩ := b.to2; exact ⟨_, _, _, rfl, a, hv, hx⟩
theorem VReps.to4 {X : Nat → Prop} {vs : List V} {c d e f : Value} (h : VReps ι X w vs [c, d, e, f]) : ∃ u v x y, vs = [u, v, x, y] ∧ VRep ι X w u c ∧ VRep ι X w v d ∧ VRep ι X w x e ∧ VRep ι X w y f := by
 cases h with | cons a b => obtain ⟨v, x, y, rfl, hv, hx, hy⟩ := b.to3; exact ⟨_, _, _, _, rfl, a, hv, hx, hy⟩
theorem prep_zip {X : Nat → Prop} {a : Act} : ∀ (ps : List (Nat × Operand)) {vs : List V}, VReps ι X w vs (ps.map fun p => a.eval p.2) → PRep ι X w (zipP ps vs) (ps.map fun p => (p.1, a.eval p.2))
 | [], vs, h => by cases h; exact .nil
 | (j, x) :: ps, vs, h => by
  cases h with
  | cons p q => exact .cons p (prep_zip ps q)
theorem zipP_zip : ∀ (ps : List (Nat × Operand)) (xs : List V), zipP ps xs = (ps.map (·.1)).zip xs
 | [], xs => by simp [zipP]
 | (j, x) :: ps, [] => by simp [zipP]
 | (j, x) :: ps, v :: xs => by simp [zipP, zipP_zip ps xs]
theorem act_ok {G : List (Nat × Con)} (hG : GOk P G) (h : HSim ι O w0 hp w) {nid : Nat} (hn : ι nid = none) {o : Oper} {a : Act} {vs : List V} (hv : VReps ι (Ex1 ι hp O) w vs ((opnds o).map a.eval)) {r : Res} (ha : act P G o vs hp nid = some r) (hob : r.ob = true)
  {K : Act → World → Prop} {Q : Exit → Act → World → Prop} (hK : ∀ c w', Post ι O w0 hp w nid r.v r.wr w' c → K (a.put o.dst c) w') : o.wp P a w K Q := by
 obtain ⟨dst, op, type, pos, aft, guard⟩ := o
 have fin : ∀ {c w'}, (execOp a.eval ⟨dst, op, type, pos, aft, guard⟩).run P w = .ok (.value c) w' → Post ι O w0 hp w nid r.v r.wr w' c → Oper.wp P ⟨dst, op, type, pos, aft, guard⟩ a w K Q := fun h1 h2 => wp_run h1 (hK _ _ h2)
 have pur : ∀ {c}, (execOp a.eval ⟨dst, op, type, pos, aft, guard⟩).run P w = .ok (.value c) w → VRep ι (Ex1 ι hp O) w r.v c → r.wr = [] → Oper.wp P ⟨dst, op, type, pos, aft, guard⟩ a w K Q := fun h1 h2 h3 => fin h1 (by rw [h3]; exact Post.pure h h2)
 cases op with
 | move x =>
  obtain ⟨v, rfl, p⟩ := VReps.to1 (c := a.eval x) hv
  injection ha with ha; subst ha
  exact pur (by simp [execOp]) p rfl
 | assign x =>
  obtain ⟨v, rfl, p⟩ := VReps.to1 (c := a.eval x) hv
  injection ha with ha; subst ha
  exact pur (by simp [execOp]) p rfl
 | pick c x y =>
  obtain ⟨u, v, z, rfl, p, q, s⟩ := VReps.to3 (c := a.eval c) (d := a.eval x) (e := a.eval y) hv
  cases u with
  | bool b =>
   obtain ⟨z', h1, h2⟩ := Option.map_eq_some_iff.1 ha
   subst h2
   have hb := p.bool_inv
   exact pur (c := if b then a.eval x else a.eval y) (by simp [execOp, hb, asBool]) (pick_rep q s h1) rfl
  | _ => cases ha
 | alloc t =>
  have := VReps.nil_inv (vs := vs) hv
  subst this
  simp only [act] at ha
  split at ha
  ·rename_i sh hs
   obtain ⟨hz, ha⟩ := ofBif ha; injection ha with ha; subst ha
   obtain ⟨c, w', h1, h2⟩ := op_alloc h hn hz
   exact fin (by simp [execOp, h1]) h2
  ·cases ha
 | box t x =>
  obtain ⟨v, rfl, p⟩ := VReps.to1 (c := a.eval x) hv
  simp only [act] at ha
  split at ha
  ·rename_i sh hs
   obtain ⟨hz, ha⟩ := ofBif ha; injection ha with ha; subst ha
   obtain ⟨c, w', h1, h2⟩ := op_box (P := P) (t := t) h hn p hz
   exact fin (by simp [execOp, h1]) h2
  ·cases ha
 | build t parts =>
  have hv' : VReps ι (Ex1 ι hp O) w vs (parts.toList.map fun p => a.eval p.2) := by simpa [opnds, Op.operands, Function.comp_def] using hv
  simp only [act] at ha
  split at ha
  ·rename_i sh hs
   obtain ⟨hz, ha⟩ := ofBif ha
   simp only [Bool.and_eq_true] at hz
   split at ha
   ·rename_i v hb
    injection ha with ha; subst ha
    obtain ⟨d, h1, h2⟩ := op_build (cs := parts.map fun p => (p.1, a.eval p.2)) hz.1 hz.2 (by simpa using prep_zip parts.toList hv') hb
    exact pur (by simp [execOp, h1]) h2 rfl
   ·cases ha
  ·cases ha
 | buildSlice t n parts =>
  have hv' : VReps ι (Ex1 ι hp O) w vs (parts.toList.map fun p => a.eval p.2) := by simpa [opnds, Op.operands, Function.comp_def] using hv
  simp only [act] at ha
  split at ha
  ·split at ha
   ·rename_i T b l he hb
    obtain ⟨hz, ha⟩ := ofBif ha; injection ha with ha; subst ha
    simp only [Bool.and_eq_true] at hz
    obtain ⟨c, w', h1, h2⟩ := op_buildB (cs := parts.map fun p => (p.1, a.eval p.2)) h hn he hz.1 (Nat.le_of_ble_eq_true hz.2) (by simpa using prep_zip parts.toList hv') hb
    exact fin (by simp [execOp, h1]) h2
   ·cases ha
  ·rename_i e hs
   cases hpl : plainS e with
   | true =>
    rw [hpl] at ha
    simp only [cond_true] at ha
    split at ha
    ·rename_i T b xs he hl
     split at ha
     ·rename_i l hb
      obtain ⟨hz, ha⟩ := ofBif ha; injection ha with ha; subst ha
      simp only [Bool.and_eq_true] at hz
      rw [zipP_zip] at hb
      obtain ⟨c, w', h1, h2⟩ := op_buildR (cs := parts.map fun p => (p.1, a.eval p.2)) h hn he hz.1.1 hz.1.2 (Nat.le_of_ble_eq_true hz.2) (by simpa [Function.comp_def] using hv') (by simp [Function.comp_def]) hl hb
      exact fin (by simp [execOp, h1]) h2
     ·cases ha
    ·cases ha
   | false =>
    rw [hpl] at ha
    simp only [cond_false] at ha
    split at ha
    ·rename_i T b l he hb
     obtain ⟨hz, ha⟩ := ofBif ha; injection ha with ha; subst ha
     simp only [Bool.and_eq_true] at hz
     obtain ⟨c, w', h1, h2⟩ := op_buildA (cs := parts.map fun p => (p.1, a.eval p.2)) h hn he hz.1.1 (Nat.le_of_ble_eq_true hz.1.2) (by simpa using prep_zip parts.toList hv') hb
     exact fin (by simp [execOp, h1]) h2
    ·cases ha
  ·cases ha
 | load t x =>
  obtain ⟨v, rfl, p⟩ := VReps.to1 (c := a.eval x) hv
  simp only [act] at ha
  split at ha
  ·rename_i id q off sh
   split at ha
   ·rename_i k hk
    split at ha
    ·rename_i u hg
     obtain ⟨hl, ha⟩ := ofBif ha; injection ha with ha; subst ha
     obtain ⟨d, h1, h2⟩ := op_load h p (.inl ⟨id, q, off, sh, k, rfl, hk, hg, hl⟩)
     exact pur (by simp [execOp, h1]) h2 rfl
    ·cases ha
   ·cases ha
  ·rename_i sh u
   obtain ⟨hl, ha⟩ := ofBif ha; injection ha with ha; subst ha
   obtain ⟨d, h1, h2⟩ := op_load h p (.inr ⟨sh, rfl, hl⟩)
   exact pur (by simp [execOp, h1]) h2 rfl
  ·cases ha
 | store t x y =>
  obtain ⟨u, v, rfl, p, q⟩ := VReps.to2 (c := a.eval x) (d := a.eval y) hv
  have fin' : ∀ {w'}, (Instr.storeAt t (a.eval x) (a.eval y)).run P w = .ok () w' → Post ι O w0 hp w nid r.v r.wr w' Go.undef → Oper.wp P ⟨dst, .store t x y, type, pos, aft, guard⟩ a w K Q := by
   intro w' h1 h2
   refine Does.wp (c := Go.undef) (.inr ⟨?_, rfl⟩) (hK _ _ h2)
   simp [execOp, h1]
  simp only [act] at ha
  split at ha
  ·rename_i id pp off sh
   split at ha
   ·rename_i s v0 hk
    split at ha
    ·rename_i v' hs
     obtain ⟨hl, ha⟩ := ofBif ha; injection ha with ha; subst ha
     simp only [Bool.and_eq_true] at hl
     obtain ⟨x', hg⟩ := setP_get pp hs
     obtain ⟨w', h1, h2⟩ := op_store_var (P := P) (t := t) h hk p q hs hg hl.1 hl.2
     exact fin' h1 (h2 nid)
    ·cases ha
   ·rename_i T s v0 hk
    split at ha
    ·rename_i z hz
     split at ha
     ·rename_i v' hs
      obtain ⟨hl, ha⟩ := ofBif ha; injection ha with ha; subst ha
      simp only [Bool.and_eq_true, Bool.not_eq_true'] at hl
      obtain ⟨w', h1, h2⟩ := op_store_row (P := P) (t := t) h hk p q hz hs hl.1.1 hl.1.2 hl.2
      exact fin' h1 (h2 nid)
     ·cases ha
    ·cases ha
   ·cases ha
  ·cases ha
 | nilCheck x =>
  obtain ⟨v, rfl, p⟩ := VReps.to1 (c := a.eval x) hv
  simp only [act] at ha
  split at ha
  ·injection ha with ha; subst ha
   obtain ⟨g, hc, _⟩ := p.ref_inv
   exact pur (c := a.eval x) (by simp [execOp, hc]) p rfl
  ·injection ha with ha; subst ha
   obtain ⟨b, off, ds, hc, _⟩ := p.vref_inv
   exact pur (c := a.eval x) (by simp [execOp, hc]) p rfl
  ·injection ha with ha; subst ha
   obtain ⟨as, bs, hc, _⟩ := p.fn_inv
   exact pur (c := a.eval x) (by simp [execOp, hc]) p rfl
  ·rename_i m t v
   obtain ⟨d, hc⟩ := p.mv_inv
   split at ha
   ·rename_i f hm
    injection ha with ha; subst ha
    refine pur (c := a.eval x) ?_ p rfl
    have e : P.types.size + Made.depth = (P.types.size + 99) + 1 := rfl
    have hn := run_nilAhead (w := w) hm (P.types.size + 99) d
    rw [← e] at hn
    simp only [execOp, hc]
    simp only [List.getElem?_toArray, List.getElem?_cons_zero, Sem.run_bind, run_program, Result.andThen_ok]
    rw [hn]
    rfl
   ·cases ha
  ·cases ha
 | binOp op t x y yt =>
  obtain ⟨u, v, rfl, p, q⟩ := VReps.to2 (c := a.eval x) (d := a.eval y) hv
  have hx : execOp a.eval ⟨dst, .binOp op t x y yt, type, pos, aft, guard⟩ = (do pure (Next.value (← (do eqGuard op t x y (a.eval x) (a.eval y); binOp op t (a.eval x) (a.eval y))))) := rfl
  simp only [act] at ha
  cases hnt : nilTy P t v with
  | true =>
   rw [hnt] at ha
   obtain ⟨e, h1, h2, h3⟩ := op_cmpNil (xo := x) p q hnt ha hob
   refine pur (c := e) ?_ h2 h3
   rw [hx, Sem.run_bind, h1]
   rfl
  | false =>
   rw [hnt] at ha
   obtain ⟨e, h1, h2, h3⟩ := run_binV p q (r := r) ha hob x y
   refine pur (c := e) ?_ h2 h3
   rw [hx, Sem.run_bind, h1]
   rfl
 | makeInterface t x =>
  obtain ⟨v, rfl, p⟩ := VReps.to1 (c := a.eval x) hv
  simp only [act] at ha
  split at ha
  ·cases ha
  ·rename_i d hd hu
   obtain ⟨ho, ha⟩ := ofBif ha; injection ha with ha; subst ha
   obtain ⟨h1, h2⟩ := op_ifc hu (fun ms e => hd ms e) p ho
   exact pur (by simp [execOp, h1]) h2 rfl
  ·cases ha
 | typeAssert x xt t ok =>
  obtain ⟨v, rfl, p⟩ := VReps.to1 (c := a.eval x) hv
  obtain ⟨d, h1, h2, h3⟩ := op_asrt (xt := xt) p (r := r) ha
  exact pur (by simp [execOp, h1]) h2 h3
 | unOp op t x =>
  obtain ⟨v, rfl, p⟩ := VReps.to1 (c := a.eval x) hv
  obtain ⟨e, h1, h2, h3, _⟩ := run_unV (P := P) p (r := r) ha
  exact pur (by simp [execOp, h1]) h2 h3
 | convert s d x =>
  obtain ⟨v, rfl, p⟩ := VReps.to1 (c := a.eval x) hv
  simp only [act] at ha
  split at ha
  ·rename_i u hc
   injection ha with ha; subst ha
   obtain ⟨e, h1, h2⟩ := op_conv h p hc
   exact pur (by simp [execOp, h1]) h2 rfl
  ·cases ha
 | makeFunc fn first caps =>
  have hv' : VReps ι (Ex1 ι hp O) w vs ((first ++ caps).toList.map a.eval) := by simpa [opnds, Op.operands] using hv
  cases fn with
  | func f =>
   simp only [act, pureR] at ha
   injection ha with ha; subst ha
   have e1 : ((first ++ caps).toList.map a.eval).take first.size = first.toList.map a.eval := by simp
   have e2 : ((first ++ caps).toList.map a.eval).drop first.size = caps.toList.map a.eval := by simp
   refine pur (c := .func (.func f) (first.map a.eval) (caps.map a.eval)) (by simp [execOp, Instr.makeFunc]) ?_ rfl
   have t1 := hv'.take first.size
   have t2 := hv'.drop first.size
   rw [e1] at t1
   rw [e2] at t2
   have := VRep.one (O := Ex1 ι hp O) (w := w) (.fn (f := f) t1 t2) rfl
   rw [show first.map a.eval = (first.toList.map a.eval).toArray from Array.ext' (by simp), show caps.map a.eval = (caps.toList.map a.eval).toArray from Array.ext' (by simp)]
   exact this
  | method m =>
   cases vs with
   | nil => cases ha
   | cons v vs =>
    cases vs with
    | cons _ _ => cases v <;> cases ha
    | nil =>
     cases v with
     | ifc t v =>
      obtain ⟨ho, ha⟩ := ofBif (c := Nat.beq first.size 1 && Nat.beq caps.size 0) ha; injection ha with ha; subst ha
      simp only [Bool.and_eq_true] at ho
      have e1 := Nat.eq_of_beq_eq_true ho.1
      have e2 := Nat.eq_of_beq_eq_true ho.2
      obtain ⟨x, rfl⟩ : ∃ x, first = #[x] := by
       match first, e1 with
       | ⟨[x]⟩, _ => exact ⟨x, rfl⟩
      obtain rfl : caps = #[] := Array.eq_empty_of_size_eq_zero e2
      have hv1 : VReps ι (Ex1 ι hp O) w [.ifc t v] [a.eval x] := by simpa using hv'
      obtain ⟨c, hc, q⟩ := hv1.one_inv
      injection hc with hc
      subst hc
      obtain ⟨d, hd, q⟩ := q.ifc_inv
      exact pur (c := .func (.method m) #[.iface t d] #[]) (by simp [execOp, Instr.makeFunc, hd]) (.one (.mv q) rfl) rfl
     | _ => cases ha
  | _ => cases vs <;> cases ha
 | makeSlice t x y =>
  obtain ⟨u, v, rfl, p, q⟩ := VReps.to2 (c := a.eval x) (d := a.eval y) hv
  cases u with
  | int k n =>
   cases v with
   | int k' m =>
    have hk : k = .i64 ∧ k' = .i64 := by cases k <;> cases k' <;> first | exact ⟨rfl, rfl⟩ | cases ha
    obtain ⟨rfl, rfl⟩ := hk
    obtain ⟨hx, _⟩ := p.int_inv; obtain ⟨hy, _⟩ := q.int_inv
    simp only [act] at ha
    split at ha
    ·split at ha
     ·rename_i T b he
      obtain ⟨hz, ha⟩ := ofBif ha; injection ha with ha; subst ha
      simp only [Bool.and_eq_true, beq_iff_eq, inC, decide_eq_true_eq] at hob
      obtain ⟨⟨rfl, h0, h1⟩, h2⟩ := hob
      obtain ⟨c, w', r1, r2⟩ := op_make h hn he hz h0 (by omega) (Nat.le_of_ble_eq_true h2)
      exact fin (by simp [execOp, hx, hy, r1]) r2
     ·cases ha
    ·cases ha
   | _ => cases k <;> cases ha
  | _ => cases ha
 | slice t x lo hi mx =>
  cases mx with
  | some m =>
   cases lo with
   | none =>
    cases hi with
    | none => simp only [act] at ha; cases ha
    | some hi =>
     obtain ⟨v, v1, v2, rfl, p, q, s⟩ := VReps.to3 (c := a.eval x) (d := a.eval hi) (e := a.eval m) hv
     obtain ⟨d, h1, h2, h3⟩ := op_sliceM p .none q s (r := r) ha hob
     exact pur (by simp [execOp, h1]) h2 h3
   | some lo =>
    cases hi with
    | none => simp only [act] at ha; cases ha
    | some hi =>
     obtain ⟨v, v1, v2, v3, rfl, p, q, s, u⟩ := VReps.to4 (c := a.eval x) (d := a.eval lo) (e := a.eval hi) (f := a.eval m) hv
     obtain ⟨d, h1, h2, h3⟩ := op_sliceM p (.some q) s u (r := r) ha hob
     exact pur (by simp [execOp, h1]) h2 h3
  | none =>
   cases lo with
   | none =>
    cases hi with
    | none =>
     obtain ⟨v, rfl, p⟩ := VReps.to1 (c := a.eval x) hv
     obtain ⟨d, h1, h2, h3⟩ := op_slice p .none .none (r := r) ha hob
     exact pur (by simp [execOp, h1]) h2 h3
    | some hi =>
     obtain ⟨v, v1, rfl, p, q⟩ := VReps.to2 (c := a.eval x) (d := a.eval hi) hv
     obtain ⟨d, h1, h2, h3⟩ := op_slice p .none (.some q) (r := r) ha hob
     exact pur (by simp [execOp, h1]) h2 h3
   | some lo =>
    cases hi with
    | none =>
     obtain ⟨v, v1, rfl, p, q⟩ := VReps.to2 (c := a.eval x) (d := a.eval lo) hv
     obtain ⟨d, h1, h2, h3⟩ := op_slice p (.some q) .none (r := r) ha hob
     exact pur (by simp [execOp, h1]) h2 h3
    | some hi =>
     obtain ⟨v, v1, v2, rfl, p, q, s⟩ := VReps.to3 (c := a.eval x) (d := a.eval lo) (e := a.eval hi) hv
     obtain ⟨d, h1, h2, h3⟩ := op_slice p (.some q) (.some s) (r := r) ha hob
     exact pur (by simp [execOp, h1]) h2 h3
 | fieldAddr t x j =>
  obtain ⟨v, rfl, p⟩ := VReps.to1 (c := a.eval x) hv
  simp only [act] at ha
  split at ha
  ·split at ha
   ·rename_i s hj
    obtain ⟨ho, ha⟩ := ofBif ha; injection ha with ha; subst ha
    obtain ⟨d, h1, h2⟩ := op_fieldAddr_ref p hj ho
    exact pur (by simp [execOp, h1]) h2 rfl
   ·cases ha
  ·split at ha
   ·rename_i s u hj hu
    obtain ⟨ho, ha⟩ := ofBif ha; injection ha with ha; subst ha
    obtain ⟨d, h1, h2⟩ := op_fieldAddr_vref p hj hu ho
    exact pur (by simp [execOp, h1]) h2 rfl
   ·cases ha
  ·cases ha
 | field t x j =>
  obtain ⟨v, rfl, p⟩ := VReps.to1 (c := a.eval x) hv
  cases v with
  | agg l =>
   simp only [act] at ha
   split at ha
   ·split at ha
    ·rename_i s u hj hu
     obtain ⟨ho, ha⟩ := ofBif ha; injection ha with ha; subst ha
     simp only [Bool.and_eq_true] at ho
     obtain ⟨d, h1, h2⟩ := op_field p hj hu ho.1.1 ho.1.2 ho.2
     exact pur (by simp [execOp, h1]) h2 rfl
    ·cases ha
   ·cases ha
  | _ => cases ha
 | indexAddr t x i =>
  obtain ⟨u, v, rfl, p, q⟩ := VReps.to2 (c := a.eval x) (d := a.eval i) hv
  cases v with
  | int k n =>
   obtain ⟨hi, _⟩ := q.int_inv
   obtain ⟨d, h1, h2, h3⟩ := op_index (k := k) p (r := r) ha hob
   exact pur (by simp [execOp, hi, h1]) h2 h3
  | _ => cases ha
 | index t x i =>
  obtain ⟨u, v, rfl, p, q⟩ := VReps.to2 (c := a.eval x) (d := a.eval i) hv
  cases v with
  | int k n =>
   obtain ⟨hi, _⟩ := q.int_inv
   obtain ⟨d, h1, h2, h3⟩ := op_idx (k := k) p (r := r) ha hob
   exact pur (by simp [execOp, hi, h1]) h2 h3
  | _ => cases ha
 | extract x j =>
  obtain ⟨v, rfl, p⟩ := VReps.to1 (c := a.eval x) hv
  cases v with
  | tup l =>
   simp only [act] at ha
   split at ha
   ·rename_i u hj
    injection ha with ha; subst ha
    obtain ⟨cs, hc, hq⟩ := p.tup_inv
    obtain ⟨c, h1, h2⟩ := hq.nth hj
    exact pur (c := c) (by simp [execOp, hc, Instr.extract, h1]) h2 rfl
   ·cases ha
  | _ => cases ha
 | call c =>
  obtain ⟨cal, args, ats⟩ := c
  cases cal with
  | invoke x m => cases vs <;> cases ha
  | builtin b =>
   have hv' : VReps ι (Ex1 ι hp O) w vs (args.toList.map a.eval) := hv
   have ha' : bltR P b ats.toList vs hp nid = some r := by cases vs <;> exact ha
   clear ha hv
   have hex : ∃ cn, (execOp a.eval ⟨dst, .call ⟨.builtin b, args, ats⟩, type, pos, aft, guard⟩) = builtin b ats type cn (args.map a.eval) := ⟨_, by simp [execOp, resolve, invoke]; rfl⟩
   obtain ⟨cn, hex⟩ := hex
   have go : ∀ {s : Sem Value} {c w'}, builtin b ats type cn (args.map a.eval) = (do pure (Next.value (← s))) → s.run P w = .ok c w' → (execOp a.eval ⟨dst, .call ⟨.builtin b, args, ats⟩, type, pos, aft, guard⟩).run P w = .ok (.value c) w' := by
    intro s c w' h1 h2
    rw [hex, h1, Sem.run_bind, h2]; rfl
   have e : args.map a.eval = (args.toList.map a.eval).toArray := Array.ext' (by simp)
   have e2 : ats = ats.toList.toArray := by simp
   generalize args.toList.map a.eval = al at hv' e
   generalize ats.toList = tl at ha' e2
   subst e2
   unfold bltR at ha'
   split at ha'
   ·rename_i t x
    obtain ⟨c, rfl, p⟩ := hv'.one_inv
    split at ha'
    ·rename_i n hl
     obtain ⟨ho, ha⟩ := ofBif ha'; injection ha with ha; subst ha
     exact pur (go (s := Builtin.len_ #[t] type (args.map a.eval)) rfl (by rw [e]; exact op_len p hl ho)) (VRep.i (by intro h; cases h)) rfl
    ·cases ha'
   ·rename_i ts k x k' y
    obtain ⟨c, d, rfl, p, q⟩ := hv'.two_inv
    obtain ⟨hk, ha⟩ := ofBif ha'
    obtain rfl := of_decide_eq_true hk
    injection ha with ha; subst ha
    obtain ⟨r1, r2⟩ := op_min (P := P) (ts := tl.toArray) (ty := type) p q
    exact pur (go (s := Builtin.min_ tl.toArray type (args.map a.eval)) rfl (by rw [e]; exact r1)) r2 rfl
   ·rename_i ts k x k' y
    obtain ⟨c, d, rfl, p, q⟩ := hv'.two_inv
    obtain ⟨hk, ha⟩ := ofBif ha'
    obtain rfl := of_decide_eq_true hk
    injection ha with ha; subst ha
    obtain ⟨r1, r2⟩ := op_max (P := P) (ts := tl.toArray) (ty := type) p q
    exact pur (go (s := Builtin.max_ tl.toArray type (args.map a.eval)) rfl (by rw [e]; exact r1)) r2 rfl
   ·rename_i t t' x y
    obtain ⟨c, d, rfl, p, q⟩ := hv'.two_inv
    split at ha'
    ·rename_i src hs
     obtain ⟨ho, ha⟩ := ofBif ha'
     simp only [Bool.and_eq_true] at ho
     obtain ⟨e', w', r1, r2⟩ := op_copy (ty := type) (t' := t') h p q hs ho.1 ho.2 ha hob
     exact fin (go (s := Builtin.copy_ #[t, t'] type (args.map a.eval)) rfl (by rw [e]; exact r1)) (r2 nid)
    ·cases ha'
   ·rename_i t t' x y
    obtain ⟨c, d, rfl, p, q⟩ := hv'.two_inv
    split at ha'
    ·rename_i z hz
     split at ha'
     ·rename_i T by' he
      obtain ⟨ho, ha⟩ := ofBif ha'; injection ha with ha; subst ha
      simp only [Bool.and_eq_true] at ho
      have htt := Nat.eq_of_beq_eq_true ho.1.1
      subst htt
      obtain ⟨e', w', r1, r2⟩ := op_append (ty := type) h hn p q hz he ho.1.2 ho.2 (Nat.le_of_ble_eq_true hob)
      exact fin (go (s := Builtin.append_ #[t, t] type (args.map a.eval)) rfl (by rw [e]; exact r1)) r2
     ·cases ha'
    ·cases ha'
   ·cases ha'
  | value f =>
   cases f with
   | func f =>
    have hv' : VReps ι (Ex1 ι hp O) w vs (args.toList.map a.eval) := hv
    have ha' : conR G hp nid f vs = some r := by cases vs <;> exact ha
    refine op_call hG h hn hv' ha' hob (o := ⟨dst, .call ⟨.value (.func f), args, ats⟩, type, pos, aft, guard⟩) ?_ hK
    have e : args.map a.eval = (args.toList.map a.eval).toArray := Array.ext' (by simp)
    simp [execOp, resolve, invoke, Act.eval, Deferred.ofValue, e]
   | _ =>
    cases vs with
    | nil => cases ha
    | cons v vs =>
     cases v with
     | fn f as bs =>
      obtain ⟨c, ds, hcs, p, q⟩ := VReps.cons_inv hv
      injection hcs with h1 h2
      obtain ⟨cas, cbs, hc, pa, pb⟩ := p.fn_inv
      rw [hc] at h1
      refine op_call hG h hn ((pa.append q).append pb) ha hob (o := ⟨dst, .call ⟨.value _, args, ats⟩, type, pos, aft, guard⟩) ?_ hK
      have e : args.map a.eval = (args.toList.map a.eval).toArray := Array.ext' (by simp)
      have h2' : args.toList.map a.eval = ds := h2
      simp [execOp, resolve, invoke, h1, Deferred.ofValue, e, h2']
     | _ => cases ha
 | _ => cases vs <;> cases ha
end
end Go.Am
namespace Go.Am
open Go Go.RowKit Go.Bas
def u8Ok (k : IntKind) (n : Int) : Bool :=
 match k with
 | .u8 => decide (0 ≤ n) && decide (n < 256)
 | _ => true
def cv : Value → Option V
 | .int k n => bif u8Ok k n then some (.int k n) else none
 | .bool b => some (.bool b)
 | .string s => some (.str s.data.toList)
 | .slice none 0 0 => some .nils
 | .pointer none => some (.nil .ptr)
 | .nilFunc => some (.nil .func)
 | .nilIface => some (.nil .iface)
 | .map none => some (.nil .map)
 | _ => none
def evO (sl : List (Nat × V)) : Operand → Option V
 | .tmp t => look sl t
 | .const v => cv v
 | .func f => some (.fn f [] [])
 | .global _ => none
inductive Ex where
 | normal
 | exit (id : Nat)
 | ret
 | goto (l : Nat)
 | pan (ch : List PanicEntry)
inductive PT where
 | val (v : V)
 | pan (ch : List PanicEntry)
 | br (b : Bool) (x y : PT)
 | no
inductive Tr where
 | leaf (e : Ex) (s : S)
 | br (b : Bool) (x y : Tr)
inductive An where
 | unr (n : Nat)
 | sum (ts vs : List Nat) (g : S → Option (Bool × Tr))
 | jmp (l : Nat) (ts vs : List Nat) (g : S → Option (Bool × Tr))
inductive AC where
 | skip
 | region (id : Nat) (ops : List Oper) (draw : Bool)
 | seq (a b : AC)
 | cond (c : Operand) (x y : AC)
 | block (id : Nat) (c : AC)
 | loop (c : AC) (ts vs : List Nat) (g : S → Option (Bool × Tr))
 | unr (n : Nat) (c : AC)
 | scope (c rest : AC) (l : Nat) (ts vs : List Nat) (g : S → Option (Bool × Tr))
 | label (l : Nat)
 | goto (l : Nat)
 | exit (id : Nat)
 | ret
 | bad (c : Code)
def AC.erase : AC → Code
 | .skip => .skip
 | .region id ops d => .region id ops.toArray d
 | .seq a b => .seq a.erase b.erase
 | .cond c x y => .cond c x.erase y.erase
 | .block id c => .block id c.erase
 | .loop c _ _ _ => .loop c.erase
 | .unr _ c => .loop c.erase
 | .scope c _ _ _ _ _ => .scope c.erase
 | .label l => .label l
 | .goto l => .goto l
 | .exit id => .exit id
 | .ret => .ret
 | .bad c => c
def annL (c : Code) : AC × List An → AC × List An
 | (x, .sum ts vs g :: r) => (.loop x ts vs g, r)
 | (x, .unr n :: r) => (.unr n x, r)
 | (_, r) => (.bad (.loop c), r)
def plainA : Code → AC
 | .skip => .skip
 | .region id ops d => .region id ops.toList d
 | .seq a b => .seq (plainA a) (plainA b)
 | .cond c x y => .cond c (plainA x) (plainA y)
 | .block id c => .block id (plainA c)
 | .label l => .label l
 | .goto l => .goto l
 | .exit id => .exit id
 | .ret => .ret
 | c => .bad c
def annS (c : Code) : AC × List An → AC × List An
 | (x, .jmp l ts vs g :: r) => (.scope x (match findLabel c l with | some rest => plainA rest | none => .bad .skip) l ts vs g, r)
 | (_, r) => (.bad (.scope c), r)
def annot : Code → List An → AC × List An
 | .skip, l => (.skip, l)
 | .region id ops d, l => (.region id ops.toList d, l)
 | .seq a b, l => (.seq (annot a l).1 (annot b (annot a l).2).1, (annot b (annot a l).2).2)
 | .cond c x y, l => (.cond c (annot x l).1 (annot y (annot x l).2).1, (annot y (annot x l).2).2)
 | .block id c, l => (.block id (annot c l).1, (annot c l).2)
 | .loop c, l => annL c (annot c l)
 | .scope c, l => annS c (annot c l)
 | .label n, l => (.label n, l)
 | .goto n, l => (.goto n, l)
 | .exit id, l => (.exit id, l)
 | .ret, l => (.ret, l)
 | c, l => (.bad c, l)
def idxN : List Nat → Nat → Option Nat
 | [], _ => none
 | x :: l, i => bif Nat.beq x i then some 0 else match idxN l i with
  | some j => some (j + 1)
  | none => none
mutual
def renV (ρ : Nat → Option Nat) : V → Option V
 | .ref id p off sh => match ρ id with
  | some j => some (.ref j p off sh)
  | none => none
 | .own id n sh => match ρ id with
  | some j => some (.own j n sh)
  | none => none
 | .win id p off lo n c sh => match ρ id with
  | some j => some (.win j p off lo n c sh)
  | none => none
 | .agg l => match renVs ρ l with
  | some l' => some (.agg l')
  | none => none
 | .int k n => some (.int k n)
 | .bool b => some (.bool b)
 | .str l => some (.str l)
 | .nils => some .nils
 | .bytes l => some (.bytes l)
 | .rows e l => some (.rows e l)
 | .barr n l => some (.barr n l)
 | .arr e n l => some (.arr e n l)
 | .vref s v => some (.vref s v)
 | .nil k => some (.nil k)
 | .void => some .void
 | .undef => some .undef
 | .fn f a b => match renVs ρ a with
  | some a' => match renVs ρ b with
   | some b' => some (.fn f a' b')
   | none => none
  | none => none
 | .ifc t v => match renV ρ v with
  | some v' => some (.ifc t v')
  | none => none
 | .mv m t v => match renV ρ v with
  | some v' => some (.mv m t v')
  | none => none
 | .avs id n e => match ρ id with
  | some j => some (.avs j n e)
  | none => none
 | .tup l => match renVs ρ l with
  | some l' => some (.tup l')
  | none => none
 | _ => none
def renVs (ρ : Nat → Option Nat) : List V → Option (List V)
 | [] => some []
 | v :: l => match renV ρ v with
  | some x => match renVs ρ l with
   | some y => some (x :: y)
   | none => none
  | none => none
end
def renB (ρ : Nat → Option Nat) : Blk → Option Blk
 | .var sh v => match renV ρ v with
  | some v' => some (.var sh v')
  | none => none
 | b => some b
def addN (L : List Nat) : List Nat → List Nat
 | [] => L
 | x :: r => match idxN L x with
  | some _ => addN L r
  | none => addN (L ++ [x]) r
def keepS (s : S) : List Nat → Option (List (Nat × V))
 | [] => some []
 | t :: r => match look s.sl t with
  | some v => match keepS s r with
   | some l => some ((t, v) :: l)
   | none => none
  | none => none
def renS (ρ : Nat → Option Nat) : List (Nat × V) → Option (List (Nat × V))
 | [] => some []
 | (t, v) :: r => match renV ρ v with
  | some x => match renS ρ r with
   | some l => some ((t, x) :: l)
   | none => none
  | none => none
def keepB (hp : Nat → Option Blk) (ρ : Nat → Option Nat) : Nat → List Nat → Option (List (Nat × Option Blk))
 | _, [] => some []
 | j, id :: r => match hp id with
  | some b => match renB ρ b with
   | some b' => match keepB hp ρ (j + 1) r with
    | some l => some ((j, some b') :: l)
    | none => none
   | none => none
  | none => match keepB hp ρ (j + 1) r with
   | some l => some ((j, none) :: l)
   | none => none
def blkIds : Option Blk → List Nat
 | some (.var _ v) => ids v
 | _ => []
def closeN (hp : Nat → Option Blk) (L : List Nat) : List Nat := addN L (L.flatMap fun i => blkIds (hp i))
def norm (ts : List Nat) (s : S) : Option (List Nat × S) :=
 match keepS s ts with
 | some l =>
  let L := closeN (lookH s.hp) (closeN (lookH s.hp) (addN [] (idss (l.map (·.2)))))
  match renS (idxN L) l with
  | some sl => match keepB (lookH s.hp) (idxN L) 0 L with
   | some hp => some (L, ⟨sl, hp, L.length, true, s.n⟩)
   | none => none
  | none => none
 | none => none
def fixOk (L : List Nat) : List Nat → Bool
 | [] => true
 | v :: r => (match nthL L v with | some x => Nat.beq x v | none => false) && fixOk L r
def varsOk (s : S) : List Nat → Bool
 | [] => true
 | v :: r => (match lookH s.hp v with | some _ => true | none => false) && varsOk s r
def isIn (x : Nat) : List Nat → Bool
 | [] => false
 | y :: l => Nat.beq x y || isIn x l
def backR (L vs : List Nat) (nx j : Nat) : Option Nat := bif isIn j vs then nthL L j else some (nx + j)
def backB (ρ : Nat → Option Nat) : List (Nat × Option Blk) → Option (List (Nat × Option Blk))
 | [] => some []
 | (j, b) :: r => match ρ j with
  | some i => match b with
   | some k => match renB ρ k with
    | some k' => match backB ρ r with
     | some l => some ((i, some k') :: l)
     | none => none
    | none => none
   | none => match backB ρ r with
    | some l => some ((i, none) :: l)
    | none => none
  | none => none
def back (L vs : List Nat) (s s2 : S) : Option S :=
 match renS (backR L vs s.nx) s2.sl with
 | some sl => match backB (backR L vs s.nx) s2.hp with
  | some hp => some ⟨sl, hp ++ (L.map (fun i => (i, none)) ++ s.hp), s.nx + s2.nx, true, s2.n⟩
  | none => none
 | none => none
def bodyK (ts xs vs : List Nat) (e : Ex) (s : S) : Option (Ex × S) :=
 match norm (match e with | .normal => ts | _ => xs) s with
 | some (L, s') => bif fixOk L vs then some (e, s') else none
 | none => none
def gOf (n k : Nat) (f : (Nat → Option V) → (Nat → Option Blk) → Option (Bool × Tr)) (s : S) : Option (Bool × Tr) := bif Nat.beq s.n n && Nat.beq s.nx k && s.ob then f (look s.sl) (lookH s.hp) else none
def tchOf (o : Oper) (vs : List V) : List Nat :=
 match o.op with
 | .load _ _ | .store _ _ _ | .convert _ _ _ | .buildSlice _ _ _ => idss vs
 | .call c => match c.callee with
  | .builtin .len => []
  | _ => idss vs
 | _ => []
structure AF where
 ac : AC
 results : List ResultVar
 rty : List (Sh × TypeId)
 n : Nat
structure Env where
 P : Program
 G : List (Nat × Con)
 I : List (Nat × AF)
 C : List (Nat × (List Nat × (S → Option (Bool × Tr))))
 X : List (Nat × (List Sh × (List V → PT)))
 dyn : Bool
section
variable {R : Type}
def put (sl : List (Nat × V)) (d : Option Nat) (v : V) : List (Nat × V) :=
 match d with
 | some t => (t, v) :: sl
 | none => sl
def dstOk (n : Nat) (d : Option Nat) : Bool :=
 match d with
 | some t => Nat.blt t n
 | none => true
def andT (a b : Bool) : Bool :=
 match b with
 | true => a
 | false => false
def S.apply (s : S) (d : Option Nat) (r : Res) : S := ⟨put s.sl d r.v, r.wr ++ s.hp, s.nx + 1, andT s.ob r.ob, s.n⟩
def target (P : Program) (o : Oper) (vs : List V) : Option (FuncId × List V) :=
 match o.op, vs with
 | .call ⟨cal, _, _⟩, vs => match cal, vs with
  | .value (.func f), vs => some (f, vs)
  | .value _, .fn f a c :: vs => some (f, a ++ vs ++ c)
  | .invoke _ m, .ifc t v :: vs => bif oneV v then (match mthOf P t m with
   | some (f, _) => some (f, v :: vs)
   | none => none) else none
  | _, _ => none
 | _, _ => none
def inlOf (E : Env) (o : Oper) (vs : List V) : Option (FuncId × AF × List V) :=
 match target E.P o vs with
 | some (f, as) => match look E.I f with
  | some af => some (f, af, as)
  | none => none
 | none => none
def slots : Nat → List V → List (Nat × V)
 | _, [] => []
 | i, v :: l => (i, v) :: slots (i + 1) l
def refOf (E : Env) (o : Oper) (vs : List V) : Option (List Nat × (S → Option (Bool × Tr)) × List V) :=
 match target E.P o vs with
 | some (f, as) => match look E.C f with
  | some (ws, F) => some (ws, F, as)
  | none => none
 | none => none
def runTr (k : Ex → S → Option R) : Tr → Option R
 | .leaf e s => k e s
 | .br b x y => bif b then runTr k x else runTr k y
def callR (ws : List Nat) (F : S → Option (Bool × Tr)) (as : List V) (s : S) (k : V → S → Option R) : Option R :=
 match norm (List.range as.length) { s with sl := slots 0 as } with
 | some (L, s1) => bif varsOk s1 ws then match F s1 with
  | some (c, t) => bif c then runTr (fun _ s2 => match back L ws s s2 with
   | some s' => match look s'.sl 0 with
    | some v => k v s'
    | none => none
   | none => none) t else none
  | none => none else none
 | none => none
def panOf (E : Env) (o : Oper) (vs : List V) : Option ((List Sh × (List V → PT)) × List V) :=
 match target E.P o vs with
 | some (f, as) => match look E.X f with
  | some x => some (x, as)
  | none => none
 | none => none
def runPT (kv : V → Option R) (kp : List PanicEntry → Option R) : PT → Option R
 | .val v => kv v
 | .pan ch => kp ch
 | .br b x y => bif b then runPT kv kp x else runPT kv kp y
 | .no => none
def dynT (E : Env) (o : Oper) (vs : List V) : Option (FuncId × List V) :=
 bif E.dyn then (match o.op, vs with
  | .call ⟨.value (.tmp _), _, _⟩, .fn f a c :: vs => some (f, a ++ vs ++ c)
  | _, _ => none) else none
def dynC {α : Type} (f : FuncId) (k : AF → α) (d : α) : List (Nat × AF) → α
 | [] => d
 | (a, af) :: r => bif Nat.beq a f then k af else dynC f k d r
def execN (E : Env) (inl : AF → List V → S → (V → S → Option R) → Option R) (kp : List PanicEntry → S → Option R) (o : Oper) (s : S) (vs : List V) (k : S → Option R) : Option R :=
   match panOf E o vs with
   | some ((ps, F), as0) => bif s.ob then match lows true (lookH s.hp) ps as0 with
    | some as => runPT (fun v => match resR (lookH s.hp) s.nx as0 v true with
     | some r => k (s.apply o.dst r)
     | none => none) (fun ch => kp ch s) (F as)
    | none => none else none
   | none => match inlOf E o vs with
   | some (_, af, as) => bif s.ob then inl af as s fun v s' => k { s' with sl := put s.sl o.dst v, nx := s'.nx + 1, n := s.n } else none
   | none => match refOf E o vs with
    | some (ws, F, as) => bif s.ob then callR ws F as s fun v s' => k ⟨put s.sl o.dst v, s'.hp, s'.nx + 1, true, s.n⟩ else none
    | none => match act E.P E.G o vs (lookH s.hp) s.nx with
     | some r => k (s.apply o.dst r)
     | none => none
def exec (E : Env) (inl : AF → List V → S → (V → S → Option R) → Option R) (kp : List PanicEntry → S → Option R) (o : Oper) (s : S) (k : S → Option R) : Option R :=
 bif dstOk s.n o.dst then
  match mapO (evO s.sl) (opnds o) with
  | none => none
  | some vs => match dynT E o vs with
   | some (f, as) => dynC f (fun af => bif s.ob then inl af as s fun v s' => k { s' with sl := put s.sl o.dst v, nx := s'.nx + 1, n := s.n } else none) (execN E inl kp o s vs k) E.I
   | none => execN E inl kp o s vs k
 else none
def skipO (o : Oper) (s : S) : S := { s with sl := put s.sl o.dst .void, nx := s.nx + 1 }
def setS (s : S) (t : Nat) (b : Bool) : S := { s with sl := (t, .bool b) :: s.sl }
def runOps (E : Env) (inl : AF → List V → S → (V → S → Option R) → Option R) (kp : List PanicEntry → S → Option R) (all : List Oper) : List Oper → S → (S → Option R) → Option R
 | [], s, k => k s
 | o :: r, s, k => match o.guard with
  | none => exec E inl kp o s fun s => runOps E inl kp all r s k
  | some (j, want) => match (nthL all j).bind (·.dst) with
   | none => none
   | some t => match look s.sl t with
    | some (.bool b) => bif b then
      (bif want then exec E inl kp o (setS s t true) fun s => runOps E inl kp all r s k else bif dstOk s.n o.dst then runOps E inl kp all r (skipO o (setS s t true)) k else none)
     else
      (bif want then bif dstOk s.n o.dst then runOps E inl kp all r (skipO o (setS s t false)) k else none else exec E inl kp o (setS s t false) fun s => runOps E inl kp all r s k)
    | some .void => bif dstOk s.n o.dst then runOps E inl kp all r (skipO o s) k else none
    | _ => none
structure It where
 dst : Option Nat
 v : V
 wr : List (Nat × Option Blk)
 rd : List Nat
 tch : List Nat
 deriving Inhabited
def tmpsOf : List Operand → List Nat
 | [] => []
 | .tmp t :: r => t :: tmpsOf r
 | _ :: r => tmpsOf r
def rdsO (all : List Oper) (o : Oper) : List Nat :=
 (match o.guard with
  | some (j, _) => ((nthL all j).bind (·.dst)).toList
  | none => []) ++ tmpsOf (opnds o)
def actD (E : Env) (all : List Oper) (o : Oper) (s : S) (k : S → It → Option R) : Option R :=
 bif dstOk s.n o.dst then
  match mapO (evO s.sl) (opnds o) with
  | none => none
  | some vs => match inlOf E o vs with
   | some _ => none
   | none => match act E.P E.G o vs (lookH s.hp) s.nx with
    | some r => k (s.apply o.dst r) ⟨o.dst, r.v, r.wr, rdsO all o, tchOf o vs⟩
    | none => none
 else none
def skipD (all : List Oper) (o : Oper) (s : S) (k : S → It → Option R) : Option R :=
 bif dstOk s.n o.dst then k (skipO o s) ⟨o.dst, .void, [], rdsO all o, []⟩ else none
def runDr (E : Env) (all : List Oper) : List Oper → S → (S → List It → Option R) → Option R
 | [], s, k => k s []
 | o :: r, s, k => match o.guard with
  | none => actD E all o s fun s it => runDr E all r s fun s l => k s (it :: l)
  | some (j, want) => match (nthL all j).bind (·.dst) with
   | none => none
   | some t => match look s.sl t with
    | some (.bool b) => bif b then
      (bif want then actD E all o (setS s t true) fun s it => runDr E all r s fun s l => k s (it :: l) else skipD all o (setS s t true) fun s it => runDr E all r s fun s l => k s (it :: l))
     else
      (bif want then skipD all o (setS s t false) fun s it => runDr E all r s fun s l => k s (it :: l) else actD E all o (setS s t false) fun s it => runDr E all r s fun s l => k s (it :: l))
    | some .void => skipD all o s fun s it => runDr E all r s fun s l => k s (it :: l)
    | _ => none
def keysW : List (Nat × Option Blk) → List Nat
 | [] => []
 | (i, _) :: r => i :: keysW r
def disj : List Nat → List Nat → Bool
 | [], _ => true
 | x :: l, m => !memN x m && disj l m
where memN (x : Nat) : List Nat → Bool
 | [] => false
 | y :: l => Nat.beq x y || memN x l
def indep (a b : It) : Bool :=
 disj a.dst.toList b.rd && disj b.dst.toList a.rd && disj a.dst.toList b.dst.toList && disj (keysW a.wr) b.tch && disj (keysW b.wr) a.tch && disj (keysW a.wr) (keysW b.wr)
def dirs (o : Oper) : List Nat := (o.after.toList.filter fun e => Region.binds .any e).map (·.on)
def ancs : List Oper → List (List Nat) → List (List Nat)
 | [], acc => acc
 | o :: r, acc => ancs r (acc ++ [dirs o ++ (dirs o).flatMap fun j => (nthL acc j).getD []])
def nthM : List Nat → Nat → Nat
 | [], _ => 0
 | x :: _, 0 => x
 | _ :: l, i + 1 => nthM l i
def maskOf (acc : List Nat) (j : Nat) : List Nat → Nat
 | [] => 0
 | i :: r => Nat.lor (Nat.lor (Nat.shiftLeft 1 i) (nthM acc (j - 1 - i))) (maskOf acc j r)
def hasBit (m i : Nat) : Bool := Nat.beq (Nat.land (Nat.shiftRight m i) 1) 1
def chkP (it : It) (m : Nat) : List It → Nat → Bool
 | [], _ => true
 | a :: prev, k => (hasBit m (k - 1) || indep a it) && chkP it m prev (k - 1)
def chkD : List Oper → List It → Nat → List Nat → List It → Bool
 | [], [], _, _, _ => true
 | o :: r, it :: l, j, acc, prev => (dirs o).all (fun i => Nat.blt i j) && chkP it (maskOf acc j (dirs o)) prev j && chkD r l (j + 1) (maskOf acc j (dirs o) :: acc) (it :: prev)
 | _, _, _, _, _ => false
def drawOk (all : List Oper) (its : List It) : Bool := chkD all its 0 [] []
def barO (E : Env) (o : Oper) : Bool :=
 match o.guard, o.op with
 | none, .call ⟨.value (.func f), _, _⟩ => (look E.I f).isSome || (look E.X f).isSome
 | none, .call ⟨.invoke _ _, _, _⟩ => true
 | none, .call ⟨.value (.tmp _), _, _⟩ => E.dyn
 | _, _ => false
def bars (E : Env) : List Oper → Nat → List Nat
 | [], _ => []
 | o :: r, j => bif barO E o then j :: bars E r (j + 1) else bars E r (j + 1)
def rngAll (p : Nat → Bool) : Nat → Bool
 | 0 => true
 | n + 1 => p n && rngAll p n
def dirsOk (all : List Oper) : Bool := rngAll (fun j => match nthL all j with
 | some o => (dirs o).all fun i => Nat.blt i j
 | none => true) all.length
def barsOk (all : List Oper) (bs : List Nat) : Bool :=
 dirsOk all && bs.all fun c => Nat.blt c all.length && rngAll (fun j => bif Nat.blt j c then isIn j ((nthL (ancs all []) c).getD []) else bif Nat.blt c j then isIn c ((nthL (ancs all []) j).getD []) else true) all.length
def trivIt : It := ⟨none, .void, [], [], []⟩
def chkSeg (all : List Oper) (lo hi : Nat) (its : List It) : Bool := chkD ((all.drop lo).take (hi - lo)) its lo (List.replicate lo 0) (List.replicate lo trivIt)
def runSeg (E : Env) (inl : AF → List V → S → (V → S → Option R) → Option R) (kp : List PanicEntry → S → Option R) (all : List Oper) : List Nat → Nat → S → (S → Option R) → Option R
 | [], lo, s, k => runDr E all ((all.drop lo).take (all.length - lo)) { s with nx := s.nx + lo } fun s its => bif s.ob && chkSeg all lo all.length its then k { s with ob := true } else none
 | c :: bs, lo, s, k => bif Nat.ble lo c then runDr E all ((all.drop lo).take (c - lo)) { s with nx := s.nx + lo } fun s its => bif s.ob && chkSeg all lo c its then match nthL all c with
   | some o => bif o.guard.isNone then exec E inl kp o { s with ob := true } fun s => runSeg E inl kp all bs (c + 1) s k else none
   | none => none
  else none else none
def AC.sums : AC → List (AC × List Nat × List Nat × (S → Option (Bool × Tr)))
 | .seq a b => a.sums ++ b.sums
 | .cond _ a b => a.sums ++ b.sums
 | .block _ a => a.sums
 | .unr _ a => a.sums
 | .scope a _ _ _ _ _ => a.sums
 | .loop c ts vs g => (c, ts, vs, g) :: c.sums
 | _ => []
def AC.jmps : AC → List (AC × AC × Nat × List Nat × (S → Option (Bool × Tr)))
 | .seq a b => a.jmps ++ b.jmps
 | .cond _ a b => a.jmps ++ b.jmps
 | .block _ a => a.jmps
 | .unr _ a => a.jmps
 | .loop c _ _ _ => c.jmps
 | .scope c rest l _ vs g => (c, rest, l, vs, g) :: c.jmps
 | _ => []
def loopN (body : (Ex → S → Option R) → S → Option R) (k : Ex → S → Option R) : Nat → S → Option R
 | 0, _ => none
 | n + 1, s => body (fun e s' => match e with | .normal => loopN body k n s' | e => k e s') s
def aev (E : Env) (inl : AF → List V → S → (V → S → Option R) → Option R) : AC → (Ex → S → Option R) → S → Option R
 | .skip, k, s => k .normal s
 | .region _ ops false, k, s => runOps E inl (fun ch s => k (.pan ch) s) ops ops s fun s => bif s.ob then k .normal { s with ob := true } else none
 | .region _ ops true, k, s => match bars E ops 0 with
  | [] => runDr E ops ops s fun s its => bif s.ob && drawOk ops its then k .normal { s with ob := true } else none
  | bs => bif s.ob && barsOk ops bs then runSeg E inl (fun ch s => k (.pan ch) s) ops bs 0 s fun s => k .normal s else none
 | .seq a b, k, s => aev E inl a (fun e s => match e with | .normal => aev E inl b k s | e => k e s) s
 | .cond c x y, k, s => match c with
  | .tmp t => match look s.sl t with
   | some (.bool b) => bif b then aev E inl x k (setS s t true) else aev E inl y k (setS s t false)
   | _ => none
  | .const (.bool b) => bif b then aev E inl x k s else aev E inl y k s
  | _ => none
 | .block id c, k, s => aev E inl c (fun e s => match e with | .exit i => bif Nat.beq i id then k .normal s else k (.exit i) s | e => k e s) s
 | .loop _ ts vs g, k, s => match norm ts s with
  | some (L, s1) => bif varsOk s1 vs then match g s1 with
   | some (c, t) => bif c then runTr (fun e s2 => match back L vs s s2 with | some s' => k e s' | none => none) t else none
   | none => none else none
  | none => none
 | .unr n c, k, s => loopN (aev E inl c) k n s
 | .label _, k, s => k .normal s
 | .goto l, k, s => k (.goto l) s
 | .scope c _ l ts vs g, k, s => aev E inl c (fun e s => match e with
  | .goto l' => bif Nat.beq l' l then match norm ts s with
   | some (L, s1) => bif varsOk s1 vs then match g s1 with
    | some (c, t) => bif c then runTr (fun e s2 => match back L vs s s2 with
     | some s' => match e with
      | .goto _ => none
      | e => k e s'
     | none => none) t else none
    | none => none else none
   | none => none else none
  | e => k e s) s
 | .exit id, k, s => k (.exit id) s
 | .ret, k, s => k .ret s
 | .bad _, _, _ => none
def resV (P : Program) (s : S) : List ResultVar → Option (List V)
 | [] => some []
 | .tmp t :: r => match look s.sl t with
  | some v => match resV P s r with
   | some l => some (v :: l)
   | none => none
  | none => none
 | .cell t ty :: r => match look s.sl t with
  | some (.ref id p _ sh) => match lookH s.hp id with
   | some b => match getP (contV b) p with
    | some v => match resV P s r with
     | some l => bif ldOk P ty sh then some (v :: l) else none
     | none => none
    | none => none
   | none => none
  | _ => none
def tupV : List V → V
 | [v] => v
 | l => .tup l
def inlN (E : Env) : Nat → AF → List V → S → (V → S → Option R) → Option R
 | 0, _, _, _, _ => none
 | d + 1, af, vs, s, k => bif Nat.ble vs.length af.n then aev E (inlN E d) af.ac (fun e s' => match e with
  | .normal | .ret => match resV E.P s' af.results with
   | some l => k (tupV l) s'
   | none => none
  | _ => none) { s with sl := slots 0 vs, n := af.n } else none
def callV (E : Env) (af : AF) (vs : List V) : Option V :=
 bif Nat.ble vs.length af.n then aev E (inlN E 6) af.ac (fun e s => match e with
  | .normal | .ret => match resV E.P s af.results with
   | some l => (packs (lookH s.hp) af.rty l).map tupV
   | none => none
  | _ => none) ⟨slots 0 vs, [], 0, true, af.n⟩ else none
end
def afOf (P : Program) (f : Func) (l : List An) : AF :=
 ⟨match f.body with | some c => (annot c l).1 | none => .bad .skip, f.results.toList, (mapO (fun t => (shOf P depth t).map fun s => (s, match P.underlying t with | some (.slice e) => e | _ => 0)) f.resultTypes.toList).getD [], f.ntmps⟩
end Go.Am
namespace Go.Am
open Go Go.RowKit Go.Bas
def XS (ι : Nat → Option Cn) (O : Nat → Prop) (s : S) : Nat → Prop := Ex1 ι (lookH s.hp) O
structure MSim (ι : Nat → Option Cn) (O : Nat → Prop) (w0 : Zone) (s : S) (w : World) : Prop where
 mem : HSim ι O w0 (lookH s.hp) w
 fresh : ∀ id, s.nx ≤ id → ι id = none
structure Sim (ι : Nat → Option Cn) (O : Nat → Prop) (w0 : Zone) (s : S) (a : Act) (w : World) : Prop extends MSim ι O w0 s w where
 size : a.tmps.size = s.n
 slots : ∀ t v, look s.sl t = some v → t < s.n ∧ VRep ι (XS ι O s) w v (a.tmps.getD t Go.undef)
 defers : a.defers = []
structure ExtP (p : Nat → Prop) (ι ι' : Nat → Option Cn) (O O' : Nat → Prop) (w w' : World) : Prop where
 size : w.heap.size ≤ w'.heap.size
 io : ∀ id c, p id → ι id = some c → ι' id = some c
 same : ∀ b, b < w.heap.size → ¬ O b → w'.heap[b]? = w.heap[b]?
 own : ∀ b, O' b → O b ∨ w.heap.size ≤ b
theorem Ext.part {ι ι' : Nat → Option Cn} {O O' : Nat → Prop} {w w' : World} (h : Ext ι ι' O O' w w') (p : Nat → Prop) : ExtP p ι ι' O O' w w' := ⟨h.size, fun id c _ e => h.io id c e, h.same, h.own⟩
theorem ExtP.trans {p : Nat → Prop} {ι ι' ι'' : Nat → Option Cn} {O O' O'' : Nat → Prop} {w w' w'' : World} (h : ExtP p ι ι' O O' w w') (k : ExtP p ι' ι'' O' O'' w' w'') : ExtP p ι ι'' O O'' w w'' :=
  ⟨Nat.le_trans h.size k.size, fun id c hl e => k.io id c hl (h.io id c hl e),
   fun b hb ho => (k.same b (Nat.lt_of_lt_of_le hb h.size) (fun h' => (h.own b h').elim ho (by omega))).trans (h.same b hb ho),
   fun b hb => (k.own b hb).elim (h.own b) (fun h' => .inr (Nat.le_trans h.size h'))⟩
def Nxt (ι : Nat → Option Cn) (O : Nat → Prop) (w0 : Zone) (s : S) (w : World) (s' : S) (a' : Act) (w' : World) : Prop :=
 ∃ ι', Sim ι' O w0 s' a' w' ∧ Ext ι ι' (XS ι O s) (XS ι' O s') w w'
section
variable {ι : Nat → Option Cn} {O : Nat → Prop} {w0 : Zone} {w : World} {s : S} {a : Act}
def ιL (ι : Nat → Option Cn) (L : List Nat) : Nat → Option Cn := fun j => (L[j]?).bind ι
theorem idxN_spec : ∀ {L : List Nat} {i j : Nat}, idxN L i = some j → L[j]? = some i
 | x :: l, i, j, h => by
  simp only [idxN] at h
  cases hq : Nat.beq x i with
  | true => rw [hq] at h; injection h with h; subst h; simp [Nat.eq_of_beq_eq_true hq]
  | false =>
   rw [hq] at h
   simp only [cond_false] at h
   split at h
   ·rename_i j' hj
    injection h with h; subst h
    simpa using idxN_spec hj
   ·cases h
theorem ιL_of {L : List Nat} {i j : Nat} (h : idxN L i = some j) : ιL ι L j = ι i := by
 unfold ιL; rw [idxN_spec h]; rfl
def Ren (ρ : Nat → Option Nat) (ι ι' : Nat → Option Cn) : Prop := ∀ i j, ρ i = some j → ι' j = ι i
theorem RefTo.ren {ρ : Nat → Option Nat} {ι' : Nat → Option Cn} (hρ : Ren ρ ι ι') {i j : Nat} {p : List Step} {off : Nat} {sh : Sh} {g : Nat} (h : ρ i = some j) (hr : RefTo ι i p off sh g) : RefTo ι' j p off sh g := by
 rcases hr with ⟨s0, h1, h2⟩ | ⟨n, c, T, e, h1, h2, h3⟩
 ·exact .inl ⟨s0, by rw [hρ _ _ h]; exact h1, h2⟩
 ·exact .inr ⟨n, c, T, e, by rw [hρ _ _ h]; exact h1, h2, h3⟩
theorem WinTo.ren {ρ : Nat → Option Nat} {ι' : Nat → Option Cn} (hρ : Ren ρ ι ι') {i j : Nat} {p : List Step} {off lo n c k : Nat} {sh : Sh} {g : Nat} (h : ρ i = some j) (hr : WinTo ι i p off lo n c k sh g) : WinTo ι' j p off lo n c k sh g := by
 rcases hr with ⟨r, N, o, h1, h2⟩ | ⟨N, cc, T, h1, h2⟩
 ·exact .inl ⟨r, N, o, h1.ren hρ h, h2⟩
 ·exact .inr ⟨N, cc, T, by rw [hρ _ _ h]; exact h1, h2⟩
theorem Ren.idx {L : List Nat} : Ren (idxN L) ι (ιL ι L) := fun _ _ h => ιL_of h
theorem no_to {X Y : Nat → Prop} {ι' : Nat → Option Cn} (h : ∀ b, Y b → X b) : Ext no ι' X Y w w := Ext.mk (Nat.le_refl _) (fun _ _ e => by cases e) (fun _ _ _ => rfl) (fun b hb => .inl (h b hb))
mutual
theorem ren_rep {ρ : Nat → Option Nat} {ι' : Nat → Option Cn} (hρ : Ren ρ ι ι') {X Y : Nat → Prop} (hXY : ∀ b, Y b → X b) : ∀ (v : V) {v' : V}, renV ρ v = some v' → (∀ {cs}, CRep ι X w v cs → CRep ι' Y w v' cs) ∧ v'.isAgg = v.isAgg
 | .ref id p off sh, v', h => by
  simp only [renV] at h
  split at h
  ·rename_i j hj
   injection h with h; subst h
   exact ⟨fun hr => by cases hr with | ref hr => exact .ref (hr.ren hρ hj), rfl⟩
  ·cases h
 | .own id n sh, v', h => by
  simp only [renV] at h
  split at h
  ·rename_i j hj
   injection h with h; subst h
   exact ⟨fun hr => by cases hr with | own hr hA hc => exact .own (by rw [hρ _ _ hj]; exact hr) hA hc, rfl⟩
  ·cases h
 | .win id p off lo n c sh, v', h => by
  simp only [renV] at h
  split at h
  ·rename_i j hj
   injection h with h; subst h
   exact ⟨fun hr => by cases hr with | win h1 h2 h3 => exact .win h1 h2 fun h0 => (h3 h0).elim fun g hg => ⟨g, hg.1, hg.2.ren hρ hj⟩, rfl⟩
  ·cases h
 | .agg l, v', h => by
  simp only [renV] at h
  split at h
  ·rename_i l' hl
   injection h with h; subst h
   exact ⟨fun hr => by cases hr with | agg hr => exact .agg ((rens_rep hρ hXY l hl).1 hr), rfl⟩
  ·cases h
 | .fn f x y, v', h => by
  simp only [renV] at h
  split at h
  ·rename_i x' hx
   split at h
   ·rename_i y' hy
    injection h with h; subst h
    exact ⟨fun hr => by cases hr with | fn p q => exact .fn ((rens_rep hρ hXY x hx).2 p) ((rens_rep hρ hXY y hy).2 q), rfl⟩
   ·cases h
  ·cases h
 | .ifc t u, v', h => by
  simp only [renV] at h
  split at h
  ·rename_i u' hu
   injection h with h; subst h
   exact ⟨fun hr => by cases hr with | ifc p => exact .ifc ((ren_rep hρ hXY u hu).1 p), rfl⟩
  ·cases h
 | .mv m t u, v', h => by
  simp only [renV] at h
  split at h
  ·rename_i u' hu
   injection h with h; subst h
   exact ⟨fun hr => by cases hr with | mv p => exact .mv ((ren_rep hρ hXY u hu).1 p), rfl⟩
  ·cases h
 | .avs id n e, v', h => by
  simp only [renV] at h
  split at h
  ·rename_i j hj
   injection h with h; subst h
   exact ⟨fun hr => by cases hr with | avs hr => exact .avs (by rw [hρ _ _ hj]; exact hr), rfl⟩
  ·cases h
 | .int k n, v', h => by injection h with h; subst h; exact ⟨fun hr => by cases hr with | int h => exact .int h, rfl⟩
 | .bool b, v', h => by injection h with h; subst h; exact ⟨fun hr => by cases hr; exact .bool, rfl⟩
 | .str b, v', h => by injection h with h; subst h; exact ⟨fun hr => by cases hr; exact .str, rfl⟩
 | .nils, v', h => by injection h with h; subst h; exact ⟨fun hr => by cases hr; exact .nils, rfl⟩
 | .bytes l, v', h => by injection h with h; subst h; exact ⟨fun hr => (row_any rfl (ι' := no) hr).ext (no_to hXY), rfl⟩
 | .rows e l, v', h => by injection h with h; subst h; exact ⟨fun hr => (row_any rfl (ι' := no) hr).ext (no_to hXY), rfl⟩
 | .barr n l, v', h => by injection h with h; subst h; exact ⟨fun hr => by cases hr with | barr h => exact .barr h, rfl⟩
 | .arr e n l, v', h => by injection h with h; subst h; exact ⟨fun hr => (CRep.any (s := .arr n e) (ι' := no) (by simp [isR, Sh.beq_self]) hr).ext (no_to hXY), rfl⟩
 | .vref sh u, v', h => by
  injection h with h; subst h
  exact ⟨fun hr => by cases hr with | vref h1 h2 h3 h4 h5 => exact .vref h1 ((CRep.any (ι' := no) h1 h2).ext (no_to hXY)) (fun hy => h3 (hXY _ hy)) h4 h5, rfl⟩
 | .nil k, v', h => by
  injection h with h; subst h
  refine ⟨fun hr => ?_, rfl⟩
  cases hr
  ·exact .nilp
  ·exact .nilf
  ·exact .nili
  ·exact .nilm
 | .void, v', h => by injection h with h; subst h; exact ⟨fun hr => (by cases hr), rfl⟩
 | .undef, v', h => by injection h with h; subst h; exact ⟨fun hr => (by cases hr), rfl⟩
 | .tup l, v', h => by
  simp only [renV] at h
  split at h
  ·rename_i l' hl
   injection h with h; subst h
   exact ⟨fun hr => (by cases hr), rfl⟩
  ·cases h
 | .ownv _ _, v', h => by cases h
theorem rens_rep {ρ : Nat → Option Nat} {ι' : Nat → Option Cn} (hρ : Ren ρ ι ι') {X Y : Nat → Prop} (hXY : ∀ b, Y b → X b) : ∀ (v : List V) {v' : List V}, renVs ρ v = some v' → (∀ {cs}, CReps ι X w v cs → CReps ι' Y w v' cs) ∧ (∀ {cs}, VReps ι X w v cs → VReps ι' Y w v' cs)
 | [], v', h => by
  injection h with h; subst h
  exact ⟨fun hr => by cases hr; exact .nil, fun hr => by cases hr; exact .nil⟩
 | v :: l, v', h => by
  simp only [renVs] at h
  split at h
  ·rename_i x hx
   split at h
   ·rename_i y hy
    injection h with h; subst h
    have h1 := ren_rep hρ hXY v hx
    have h2 := rens_rep hρ hXY l hy
    refine ⟨fun hr => by cases hr with | cons p q => exact .cons (h1.1 p) (h2.1 q), fun hr => ?_⟩
    cases hr with
    | cons p q =>
     refine .cons ?_ (h2.2 q)
     cases p with
     | one c d => exact .one (h1.1 c) (h1.2.trans d)
     | agg c d => exact .agg (h1.1 c) (h1.2.trans d)
     | tup c =>
      simp only [renV] at hx
      split at hx
      ·rename_i l' hl
       injection hx with hx; subst hx
       exact .tup ((rens_rep hρ hXY _ hl).2 c)
      ·cases hx
     | void => injection hx with hx; subst hx; exact .void
     | undef => injection hx with hx; subst hx; exact .undef
   ·cases h
  ·cases h
end
theorem renV_rep {ρ : Nat → Option Nat} {ι' : Nat → Option Cn} (hρ : Ren ρ ι ι') {X Y : Nat → Prop} (hXY : ∀ b, Y b → X b) {v v' : V} {c : Value} (h : renV ρ v = some v') (hr : VRep ι X w v c) : VRep ι' Y w v' c := by
 have := (rens_rep (ι := ι) (w := w) hρ hXY [v] (v' := [v']) (by simp only [renVs, h])).2 (.cons hr .nil)
 exact this.one_inv.elim fun c' h => by
  obtain ⟨h1, h2⟩ := h
  injection h1 with h1
  subst h1
  exact h2
theorem keepS_spec : ∀ {ts : List Nat} {l : List (Nat × V)}, keepS s ts = some l → ∀ p ∈ l, look s.sl p.1 = some p.2
 | [], l, h => by injection h with h; subst h; simp
 | t :: ts, l, h => by
  simp only [keepS] at h
  split at h
  ·rename_i v hv
   split at h
   ·rename_i l' hl
    injection h with h; subst h
    intro p hp
    rcases List.mem_cons.1 hp with rfl | hp
    ·exact hv
    ·exact keepS_spec hl p hp
   ·cases h
  ·cases h
theorem look_mem : ∀ {l : List (Nat × V)} {t : Nat} {v : V}, look l t = some v → (t, v) ∈ l
 | (x, u) :: l, t, v, h => by
  simp only [look] at h
  cases hq : Nat.beq x t with
  | true => rw [hq] at h; injection h with h; subst h; rw [Nat.eq_of_beq_eq_true hq]; simp
  | false => rw [hq] at h; exact List.mem_cons_of_mem _ (look_mem h)
theorem renS_spec {ρ : Nat → Option Nat} : ∀ {l l' : List (Nat × V)}, renS ρ l = some l' → ∀ p ∈ l', ∃ v, (p.1, v) ∈ l ∧ renV ρ v = some p.2
 | [], l', h => by injection h with h; subst h; simp
 | (t, v) :: l, l', h => by
  simp only [renS] at h
  split at h
  ·rename_i x hx
   split at h
   ·rename_i l2 hl
    injection h with h; subst h
    intro p hp
    rcases List.mem_cons.1 hp with rfl | hp
    ·exact ⟨v, by simp, hx⟩
    ·obtain ⟨u, h1, h2⟩ := renS_spec hl p hp
     exact ⟨u, by simp [h1], h2⟩
   ·cases h
  ·cases h
theorem keepB_spec {hq : Nat → Option Blk} {ρ : Nat → Option Nat} : ∀ {r : List Nat} {j0 : Nat} {hp : List (Nat × Option Blk)}, keepB hq ρ j0 r = some hp → ∀ j b, lookH hp j = some b → ∃ i k, j = j0 + i ∧ ∃ id, r[i]? = some id ∧ hq id = some k ∧ renB ρ k = some b
 | [], j0, hp, h, j, b, hj => by injection h with h; subst h; cases hj
 | id :: r, j0, hp, h, j, b, hj => by
  have step : ∀ (l : List (Nat × Option Blk)), keepB hq ρ (j0 + 1) r = some l → lookH l j = some b → ∃ i k, j = j0 + i ∧ ∃ id', (id :: r)[i]? = some id' ∧ hq id' = some k ∧ renB ρ k = some b := by
   intro l hl hb
   obtain ⟨i, k, e, id', h1, h2, h3⟩ := keepB_spec hl j b hb
   exact ⟨i + 1, k, by omega, id', by simpa using h1, h2, h3⟩
  simp only [keepB] at h
  split at h
  ·rename_i k hk
   split at h
   ·rename_i b' hb'
    split at h
    ·rename_i l hl
     injection h with h; subst h
     simp only [lookH] at hj
     cases hq : Nat.beq j0 j with
     | true =>
      rw [hq] at hj; injection hj with hj; subst hj
      exact ⟨0, k, (Nat.eq_of_beq_eq_true hq).symm, id, rfl, hk, hb'⟩
     | false => rw [hq] at hj; exact step l hl hj
    ·cases h
   ·cases h
  ·split at h
   ·rename_i l hl
    injection h with h; subst h
    simp only [lookH] at hj
    cases hq : Nat.beq j0 j with
    | true => rw [hq] at hj; cases hj
    | false => rw [hq] at hj; exact step l hl hj
   ·cases h
theorem idxN_none {L : List Nat} {x : Nat} (h : idxN L x = none) : x ∉ L := by
 induction L with
 | nil => simp
 | cons y L ih =>
  simp only [idxN] at h
  cases hq : Nat.beq y x with
  | true => rw [hq] at h; cases h
  | false =>
   rw [hq] at h
   simp only [cond_false] at h
   split at h
   ·cases h
   ·rename_i hn
    simp only [List.mem_cons, not_or]
    exact ⟨fun e => by subst e; simp at hq, ih hn⟩
theorem addN_nodup : ∀ {r L : List Nat}, L.Nodup → (addN L r).Nodup
 | [], L, h => h
 | x :: r, L, h => by
  simp only [addN]
  split
  ·exact addN_nodup h
  ·rename_i hn
   refine addN_nodup ?_
   rw [List.nodup_append]
   refine ⟨h, by simp, ?_⟩
   intro y hy z hz
   simp at hz
   subst hz
   rintro rfl
   exact idxN_none hn hy
theorem renB_view {ρ : Nat → Option Nat} {k b : Blk} (h : renB ρ k = some b) : isView b = isView k := by
 cases k <;> simp only [renB] at h
 ·split at h
  ·injection h with h; subst h; rfl
  ·cases h
 ·injection h with h; subst h; rfl
 ·injection h with h; subst h; rfl
mutual
theorem ren_isSh {ρ : Nat → Option Nat} : ∀ (v : V) {v' : V} {sh : Sh}, renV ρ v = some v' → isSh sh v = true → isSh sh v' = true
 | .ref id p off s, v', sh, h, hs => by
  simp only [renV] at h
  split at h
  ·injection h with h; subst h
   cases sh with
   | other k => cases k <;> exact hs
   | _ => exact hs
  ·cases h
 | .own id n s, v', sh, h, hs => by
  simp only [renV] at h
  split at h
  ·injection h with h; subst h
   cases sh with
   | other k => cases k <;> exact hs
   | _ => exact hs
  ·cases h
 | .win id p off lo n c s, v', sh, h, hs => by
  simp only [renV] at h
  split at h
  ·injection h with h; subst h
   cases sh with
   | other k => cases k <;> exact hs
   | _ => exact hs
  ·cases h
 | .agg l, v', sh, h, hs => by
  simp only [renV] at h
  split at h
  ·rename_i l' hl
   injection h with h; subst h
   obtain ⟨ss, rfl⟩ : ∃ ss, sh = .agg ss := by
    cases sh with
    | agg ss => exact ⟨ss, rfl⟩
    | other k => cases k <;> simp [isSh] at hs
    | _ => simp [isSh] at hs
   exact rens_isSh l hl hs
  ·cases h
 | .fn f x y, v', sh, h, hs => by
  simp only [renV] at h
  split at h
  ·split at h
   ·injection h with h; subst h
    cases sh with
    | other k => cases k <;> exact hs
    | _ => exact hs
   ·cases h
  ·cases h
 | .ifc t u, v', sh, h, hs => by
  simp only [renV] at h
  split at h
  ·injection h with h; subst h
   cases sh with
   | other k => cases k <;> exact hs
   | _ => exact hs
  ·cases h
 | .mv m t u, v', sh, h, hs => by
  simp only [renV] at h
  split at h
  ·injection h with h; subst h
   cases sh with
   | other k => cases k <;> exact hs
   | _ => exact hs
  ·cases h
 | .avs id n e, v', sh, h, hs => by
  simp only [renV] at h
  split at h
  ·injection h with h; subst h
   cases sh with
   | other k => cases k <;> exact hs
   | _ => exact hs
  ·cases h
 | .int k n, v', sh, h, hs => by injection h with h; subst h; exact hs
 | .bool b, v', sh, h, hs => by injection h with h; subst h; exact hs
 | .str b, v', sh, h, hs => by injection h with h; subst h; exact hs
 | .nils, v', sh, h, hs => by injection h with h; subst h; exact hs
 | .bytes l, v', sh, h, hs => by injection h with h; subst h; exact hs
 | .rows e l, v', sh, h, hs => by injection h with h; subst h; exact hs
 | .barr n l, v', sh, h, hs => by injection h with h; subst h; exact hs
 | .arr e n l, v', sh, h, hs => by injection h with h; subst h; exact hs
 | .vref s u, v', sh, h, hs => by injection h with h; subst h; exact hs
 | .nil k, v', sh, h, hs => by injection h with h; subst h; exact hs
 | .void, v', sh, h, hs => by injection h with h; subst h; exact hs
 | .undef, v', sh, h, hs => by injection h with h; subst h; exact hs
 | .tup l, v', sh, h, hs => by
  simp only [renV] at h
  split at h
  ·injection h with h; subst h
   cases sh with
   | other k => cases k <;> simp [isSh] at hs
   | _ => simp [isSh] at hs
  ·cases h
 | .ownv _ _, v', sh, h, hs => by cases h
theorem rens_isSh {ρ : Nat → Option Nat} : ∀ (v : List V) {v' : List V} {ss : List Sh}, renVs ρ v = some v' → isShs ss v = true → isShs ss v' = true
 | [], v', ss, h, hs => by injection h with h; subst h; exact hs
 | v :: l, v', ss, h, hs => by
  simp only [renVs] at h
  split at h
  ·rename_i x hx
   split at h
   ·rename_i y hy
    injection h with h; subst h
    cases ss with
    | nil => simp [isShs] at hs
    | cons s ss =>
     simp only [isShs, Bool.and_eq_true] at hs ⊢
     exact ⟨ren_isSh v hx hs.1, rens_isSh l hy hs.2⟩
   ·cases h
  ·cases h
end
def MineL (ι : Nat → Option Cn) (L : List Nat) (s1 : S) (b : Nat) : Prop := ∃ j, Mine (ιL ι L) (lookH s1.hp) j b
def OL (ι : Nat → Option Cn) (O : Nat → Prop) (s : S) (L : List Nat) (s1 : S) : Nat → Prop := fun b => XS ι O s b ∧ ¬ MineL ι L s1 b
structure Small (s : S) (L : List Nat) (s1 : S) : Prop where
 nodup : L.Nodup
 blk : ∀ j b, lookH s1.hp j = some b → ∃ id k, L[j]? = some id ∧ lookH s.hp id = some k ∧ renB (idxN L) k = some b
 nx : s1.nx = L.length
 ob : s1.ob = true
 n : s1.n = s.n
 sl : ∀ t v, look s1.sl t = some v → ∃ u, look s.sl t = some u ∧ renV (idxN L) u = some v
theorem norm_small {ts : List Nat} {L : List Nat} {s1 : S} (hn : norm ts s = some (L, s1)) : Small s L s1 := by
 unfold Am.norm at hn
 split at hn
 ·rename_i l hl
  simp only at hn
  generalize hL : closeN (lookH s.hp) (closeN (lookH s.hp) (addN [] (idss (l.map (·.2))))) = L0 at hn
  have hnd : L0.Nodup := by rw [← hL]; exact addN_nodup (addN_nodup (addN_nodup (by simp)))
  split at hn
  ·rename_i sl hsl
   split at hn
   ·rename_i hp hhp
    injection hn with hn; injection hn with e1 e2; subst e1; subst e2
    refine ⟨hnd, fun j b hb => ?_, rfl, rfl, rfl, fun t v hv => ?_⟩
    ·obtain ⟨i, k, e, id, h1, h2, h3⟩ := keepB_spec hhp j b hb
     rw [Nat.zero_add] at e; subst e
     exact ⟨id, k, h1, h2, h3⟩
    ·obtain ⟨u, h1, h2⟩ := renS_spec hsl _ (look_mem hv)
     exact ⟨u, keepS_spec hl _ h1, h2⟩
   ·cases hn
  ·cases hn
 ·cases hn
theorem Small.mine {L : List Nat} {s1 : S} (h : Small s L s1) {j b : Nat} (hm : Mine (ιL ι L) (lookH s1.hp) j b) : ∃ id, L[j]? = some id ∧ Mine ι (lookH s.hp) id b := by
 obtain ⟨k, c, h1, h2, h3, h4⟩ := hm
 obtain ⟨id, k', e1, e2, e3⟩ := h.blk j k h1
 refine ⟨id, e1, k', c, e2, by rw [← renB_view e3]; exact h2, ?_, h4⟩
 unfold ιL at h3; rw [e1] at h3; exact h3
theorem Small.inj {L : List Nat} {s1 : S} (h : Small s L s1) {i j x : Nat} (h1 : L[i]? = some x) (h2 : L[j]? = some x) : i = j := by
 obtain ⟨hi, e1⟩ := List.getElem?_eq_some_iff.1 h1
 obtain ⟨hj, e2⟩ := List.getElem?_eq_some_iff.1 h2
 exact (List.getElem_inj h.nodup).1 (e1.trans e2.symm)
theorem BRep.ren {ρ : Nat → Option Nat} {ι' : Nat → Option Cn} (hρ : Ren ρ ι ι') {X Y : Nat → Prop} (hXY : ∀ b, Y b → X b) {id j : Nat} {k b : Blk} (hj : ι' j = ι id) (hb : renB ρ k = some b) (h : BRep ι X w id k) : BRep ι' Y w j b := by
 cases h with
 | var hi hs hg hr =>
  rename_i sh v g ds T
  simp only [renB] at hb
  split at hb
  ·rename_i v' hv
   injection hb with hb; subst hb
   exact .var (by rw [hj]; exact hi) (ren_isSh v hv hs) hg ((ren_rep hρ hXY v hv).1 hr)
  ·cases hb
 | row hi hr ho =>
  injection hb with hb; subst hb
  refine .row (by rw [hj]; exact hi) ?_ ho
  cases hr with
  | bytes => exact .bytes
  | rows he hr => exact .rows he ((CReps.any_of (ι' := no) (fun p q => CRep.any p q) hr he).ext (no_to hXY))
 | view hi hr hw he =>
  injection hb with hb; subst hb
  exact .view (by rw [hj]; exact hi) ((row_any hw (ι' := no) hr).ext (no_to hXY)) hw he
theorem Sim.norm {ts vs L : List Nat} {s2 : S} (h : Sim ι O w0 s a w) (hn : norm ts s = some (L, s2)) (hf : fixOk L vs = true) : ∃ ι2, Sim ι2 O w0 s2 a w ∧ ExtP (· ∈ vs) ι ι2 (XS ι O s) (XS ι2 O s2) w w ∧ s2.ob = true := by
 have hS := norm_small hn
 have hXY : ∀ b, XS (ιL ι L) O s2 b → XS ι O s b := by
  rintro b (hb | ⟨j, hm⟩)
  ·exact .inl hb
  ·obtain ⟨id, _, hm⟩ := hS.mine hm; exact .inr ⟨id, hm⟩
 refine ⟨ιL ι L, ⟨⟨⟨h.mem.below, h.mem.old_lt, h.mem.outer, ?_, ?_, ?_⟩, ?_⟩, by rw [hS.n]; exact h.size, ?_, h.defers⟩, ⟨Nat.le_refl _, fun id c hi e => ?_, fun _ _ _ => rfl, fun b hb => .inl (hXY b hb)⟩, hS.ob⟩
 ·intro j b hb
  obtain ⟨id, k, e1, e2, e3⟩ := hS.blk j b hb
  exact BRep.ren Ren.idx hXY (by unfold ιL; rw [e1]; rfl) e3 (h.mem.blk id k e2)
 ·intro j j' b h1 h2
  obtain ⟨id, e1, m1⟩ := hS.mine h1
  obtain ⟨id', e2, m2⟩ := hS.mine h2
  have := h.mem.one _ _ _ m1 m2
  subst this
  exact hS.inj e1 e2
 ·intro j b hm
  obtain ⟨id, _, m⟩ := hS.mine hm
  exact h.mem.fresh id b m
 ·intro j hj
  rw [hS.nx] at hj
  unfold ιL
  rw [List.getElem?_eq_none hj]; rfl
 ·intro t v hv
  obtain ⟨u, h1, h2⟩ := hS.sl t v hv
  obtain ⟨h4, h5⟩ := h.slots t u h1
  exact ⟨by rw [hS.n]; exact h4, renV_rep Ren.idx hXY h2 h5⟩
 ·have hi : id ∈ vs := hi
  have : ∀ vs : List Nat, fixOk L vs = true → ∀ v ∈ vs, L[v]? = some v := by
   intro vs
   induction vs with
   | nil => intro _ v hv; cases hv
   | cons x vs ih =>
    intro hf v hv
    simp only [fixOk, Bool.and_eq_true] at hf
    rcases List.mem_cons.1 hv with rfl | hv
    ·have h1 := hf.1
     rw [nthL_eq] at h1
     split at h1
     ·rename_i y hy; rw [hy, Nat.eq_of_beq_eq_true h1]
     ·cases h1
    ·exact ih hf.2 v hv
  unfold ιL; rw [this vs hf id hi]; exact e
theorem MSim.mineL_old {L : List Nat} {s1 : S} (h : MSim ι O w0 s w) (hS : Small s L s1) : ∀ b, MineL ι L s1 b → ¬ w0.old b := by
 rintro b ⟨j, hm⟩
 obtain ⟨id, _, hm⟩ := hS.mine hm
 exact (h.mem.fresh id b hm).1
def zoneL {L : List Nat} {s1 : S} (h : MSim ι O w0 s w) (hS : Small s L s1) : Zone := ⟨w, fun b => b < w.heap.size ∧ ¬ MineL ι L s1 b, h.mem.good, fun p hp => ⟨h.mem.good.lt hp, fun hm => h.mineL_old hS _ hm (w0.tab p hp)⟩⟩
theorem MSim.front {L : List Nat} {s1 : S} (h : MSim ι O w0 s w) (hS : Small s L s1) :
  MSim (ιL ι L) (OL ι O s L s1) (zoneL h hS) s1 w ∧ (∀ b, XS (ιL ι L) (OL ι O s L s1) s1 b → XS ι O s b) ∧ (∀ b, MineL ι L s1 b → ¬ w0.old b) := by
 have hM : ∀ b, MineL ι L s1 b → (∃ id, Mine ι (lookH s.hp) id b) := by
  rintro b ⟨j, hm⟩
  obtain ⟨id, _, hm⟩ := hS.mine hm; exact ⟨id, hm⟩
 have hXY : ∀ b, XS (ιL ι L) (OL ι O s L s1) s1 b → XS ι O s b := by
  rintro b (hb | hm)
  ·exact hb.1
  ·exact .inr (hM b hm)
 have hX : ∀ b, XS ι O s b → b < w.heap.size := by
  rintro b (hb | ⟨id, hm⟩)
  ·exact h.mem.lt (h.mem.outer b hb)
  ·exact (h.mem.fresh id b hm).2
 refine ⟨⟨⟨Keeps.refl _ _, fun b hb => hb.1, fun b hb => ⟨hX b hb.1, hb.2⟩, ?_, ?_, ?_⟩, ?_⟩, hXY, fun b hm => by obtain ⟨id, hm⟩ := hM b hm; exact (h.mem.fresh id b hm).1⟩
 ·intro j b hb
  obtain ⟨id, k, e1, e2, e3⟩ := hS.blk j b hb
  exact BRep.ren Ren.idx hXY (by unfold ιL; rw [e1]; rfl) e3 (h.mem.blk id k e2)
 ·intro j j' b h1 h2
  obtain ⟨id, e1, m1⟩ := hS.mine h1
  obtain ⟨id', e2, m2⟩ := hS.mine h2
  have := h.mem.one _ _ _ m1 m2
  subst this
  exact hS.inj e1 e2
 ·intro j b hm
  refine ⟨fun ho => ho.2 ⟨j, hm⟩, ?_⟩
  obtain ⟨id, _, m⟩ := hS.mine hm
  exact (h.mem.fresh id b m).2
 ·intro j hj
  rw [hS.nx] at hj
  unfold ιL
  rw [List.getElem?_eq_none hj]; rfl
theorem isIn_spec {x : Nat} : ∀ {l : List Nat}, isIn x l = true ↔ x ∈ l
 | [] => by simp [isIn]
 | y :: l => by
  simp only [isIn, Bool.or_eq_true, List.mem_cons, isIn_spec (l := l)]
  exact ⟨fun h => h.imp Nat.eq_of_beq_eq_true id, fun h => h.imp (fun e => by subst e; simp) id⟩
theorem varsOk_spec {s1 : S} : ∀ {vs : List Nat}, varsOk s1 vs = true → ∀ v ∈ vs, ∃ k, lookH s1.hp v = some k
 | [], _, v, hv => by cases hv
 | y :: l, h, v, hv => by
  simp only [varsOk, Bool.and_eq_true] at h
  rcases List.mem_cons.1 hv with rfl | hv
  ·have h1 := h.1
   split at h1
   ·rename_i k hx; exact ⟨k, hx⟩
   ·cases h1
  ·exact varsOk_spec h.2 v hv
theorem backB_spec {ρ : Nat → Option Nat} (hinj : ∀ i j x, ρ i = some x → ρ j = some x → i = j) : ∀ {l l' : List (Nat × Option Blk)}, backB ρ l = some l' → ∀ i, (∀ k, lookH l' i = some k → ∃ j k', ρ j = some i ∧ lookH l j = some k' ∧ renB ρ k' = some k)
 | [], l', h, i, k, hk => by injection h with h; subst h; cases hk
 | (j, b) :: r, l', h, i, k, hk => by
  have tail : ∀ {l2 : List (Nat × Option Blk)} {i0 : Nat}, backB ρ r = some l2 → ρ j = some i0 → i0 ≠ i → lookH l2 i = some k → ∃ j' k', ρ j' = some i ∧ lookH ((j, b) :: r) j' = some k' ∧ renB ρ k' = some k := by
   intro l2 i0 h2 h0 hne h3
   obtain ⟨j', k', e1, e2, e3⟩ := backB_spec hinj h2 i k h3
   refine ⟨j', k', e1, ?_, e3⟩
   simp only [lookH]
   cases hq : Nat.beq j j' with
   | true => have := Nat.eq_of_beq_eq_true hq; subst this; rw [h0] at e1; injection e1 with e1; exact absurd e1 hne
   | false => exact e2
  simp only [backB] at h
  split at h
  ·rename_i i0 h0
   split at h
   ·rename_i k0
    split at h
    ·rename_i k1 h1
     split at h
     ·rename_i l2 h2
      injection h with h; subst h
      simp only [lookH] at hk
      cases hq : Nat.beq i0 i with
      | true =>
       rw [hq] at hk; injection hk with hk; subst hk
       have := Nat.eq_of_beq_eq_true hq; subst this
       exact ⟨j, k0, h0, by simp [lookH], h1⟩
      | false => rw [hq] at hk; exact tail h2 h0 (fun e => by subst e; simp at hq) hk
     ·cases h
    ·cases h
   ·split at h
    ·rename_i l2 h2
     injection h with h; subst h
     simp only [lookH] at hk
     cases hq : Nat.beq i0 i with
     | true => rw [hq] at hk; cases hk
     | false => rw [hq] at hk; exact tail h2 h0 (fun e => by subst e; simp at hq) hk
    ·cases h
  ·cases h
theorem dead_spec {hp : List (Nat × Option Blk)} {i : Nat} {k : Blk} : ∀ {L : List Nat}, lookH (L.map (fun i => (i, (none : Option Blk))) ++ hp) i = some k → i ∉ L ∧ lookH hp i = some k
 | [], h => ⟨by simp, h⟩
 | x :: L, h => by
  simp only [List.map_cons, List.cons_append, lookH] at h
  cases hq : Nat.beq x i with
  | true => rw [hq] at h; cases h
  | false =>
   rw [hq] at h
   obtain ⟨h1, h2⟩ := dead_spec (L := L) h
   exact ⟨by simp only [List.mem_cons, not_or]; exact ⟨fun e => by subst e; simp at hq, h1⟩, h2⟩
theorem lookH_app {l m : List (Nat × Option Blk)} {i : Nat} {k : Blk} (h : lookH (l ++ m) i = some k) : lookH l i = some k ∨ ((∀ k', lookH l i ≠ some k') ∧ lookH m i = some k) := by
 induction l with
 | nil => exact .inr ⟨fun k' h' => by (cases h'), h⟩
 | cons x l ih =>
  obtain ⟨y, v⟩ := x
  simp only [List.cons_append, lookH] at h ⊢
  cases hq : Nat.beq y i with
  | true => rw [hq] at h; exact .inl h
  | false => rw [hq] at h; exact ih h
theorem renS_look {ρ : Nat → Option Nat} : ∀ {l l' : List (Nat × V)}, renS ρ l = some l' → ∀ {t v}, look l' t = some v → ∃ u, look l t = some u ∧ renV ρ u = some v
 | [], l', h, t, v, hv => by injection h with h; subst h; cases hv
 | (t0, u0) :: l, l', h, t, v, hv => by
  simp only [renS] at h
  split at h
  ·rename_i x hx
   split at h
   ·rename_i l2 h2
    injection h with h; subst h
    simp only [look] at hv ⊢
    cases hq : Nat.beq t0 t with
    | true => rw [hq] at hv; injection hv with hv; subst hv; exact ⟨u0, rfl, hx⟩
    | false => rw [hq] at hv; exact renS_look h2 hv
   ·cases h
  ·cases h
theorem MSim.back {L vs : List Nat} {s1 s2 : S} {ι' : Nat → Option Cn} {w' : World} {hp : List (Nat × Option Blk)} (h : MSim ι O w0 s w) (hS : Small s L s1) (hv : varsOk s1 vs = true)
  (h2 : MSim ι' (OL ι O s L s1) (zoneL h hS) s2 w') (he : ExtP (· ∈ vs) (ιL ι L) ι' (XS (ιL ι L) (OL ι O s L s1) s1) (XS ι' (OL ι O s L s1) s2) w w')
  (hb : backB (backR L vs s.nx) s2.hp = some hp) {s' : S} (hs' : s'.hp = hp ++ (L.map (fun i => (i, none)) ++ s.hp)) (hnx : s'.nx = s.nx + s2.nx) :
  ∃ ι2, MSim ι2 O w0 s' w' ∧ Ext ι ι2 (XS ι O s) (XS ι2 O s') w w' ∧ (∀ v v' c, renV (backR L vs s.nx) v = some v' → VRep ι' (XS ι' (OL ι O s L s1) s2) w' v c → VRep ι2 (XS ι2 O s') w' v' c) := by
 obtain ⟨hf, hXY, hold⟩ := h.front hS
 let ι2 : Nat → Option Cn := fun id => if id < s.nx then ι id else ι' (id - s.nx)
 have hlow : ∀ id c, ι id = some c → id < s.nx := by
  intro id c hc
  rcases Nat.lt_or_ge id s.nx with hlt | hge
  ·exact hlt
  ·rw [h.fresh id hge] at hc; cases hc
 have hio : ∀ id c, ι id = some c → ι2 id = some c := by
  intro id c hc
  show (if id < s.nx then ι id else ι' (id - s.nx)) = some c
  rw [if_pos (hlow id c hc)]; exact hc
 have hvar : ∀ v, v ∈ vs → ∃ i c, L[v]? = some i ∧ ι i = some c ∧ i < s.nx ∧ ι' v = some c := by
  intro v hm
  obtain ⟨k0, hx⟩ := varsOk_spec hv v hm
  obtain ⟨c, hc⟩ := hf.mem.known hx
  have hc' := hc
  unfold ιL at hc'
  cases hl : L[v]? with
  | none => rw [hl] at hc'; cases hc'
  | some i =>
   rw [hl] at hc'
   exact ⟨i, c, rfl, hc', hlow i c hc', he.io v c hm hc⟩
 have hρ : Ren (backR L vs s.nx) ι' ι2 := by
  intro j i hj
  unfold backR at hj
  cases hm : isIn j vs with
  | true =>
   rw [hm] at hj
   obtain ⟨i', c, e1, e2, e3, e4⟩ := hvar j (isIn_spec.1 hm)
   rw [cond_true, nthL_eq, e1] at hj
   injection hj with hj; subst hj
   rw [e4]; exact hio _ _ e2
  | false =>
   rw [hm] at hj
   injection hj with hj; subst hj
   show (if s.nx + j < s.nx then ι (s.nx + j) else ι' (s.nx + j - s.nx)) = ι' j
   rw [if_neg (by omega), Nat.add_sub_cancel_left]
 have hinj : ∀ i j x, backR L vs s.nx i = some x → backR L vs s.nx j = some x → i = j := by
  intro i j x h1 h2
  unfold backR at h1 h2
  cases hi : isIn i vs with
  | true =>
   rw [hi] at h1
   obtain ⟨i', c, e1, e2, e3, e4⟩ := hvar i (isIn_spec.1 hi)
   rw [cond_true, nthL_eq] at h1
   cases hj : isIn j vs with
   | true =>
    rw [hj, cond_true, nthL_eq] at h2
    exact hS.inj h1 h2
   | false =>
    rw [hj] at h2; injection h2 with h2
    rw [e1] at h1; injection h1 with h1
    omega
  | false =>
   rw [hi] at h1; injection h1 with h1
   cases hj : isIn j vs with
   | true =>
    rw [hj, cond_true, nthL_eq] at h2
    obtain ⟨i', c, e1, e2, e3, e4⟩ := hvar j (isIn_spec.1 hj)
    rw [e1] at h2; injection h2 with h2
    omega
   | false => rw [hj] at h2; injection h2 with h2; omega
 have look' : ∀ i k, lookH s'.hp i = some k → (∃ j k', backR L vs s.nx j = some i ∧ lookH s2.hp j = some k' ∧ renB (backR L vs s.nx) k' = some k) ∨ (i ∉ L ∧ lookH s.hp i = some k) := by
  intro i k hk
  rw [hs'] at hk
  rcases lookH_app hk with hk | ⟨_, hk⟩
  ·exact .inl (backB_spec hinj hb i k hk)
  ·exact .inr (dead_spec hk)
 have mine' : ∀ i b, Mine ι2 (lookH s'.hp) i b → (∃ j, backR L vs s.nx j = some i ∧ Mine ι' (lookH s2.hp) j b) ∨ (i ∉ L ∧ Mine ι (lookH s.hp) i b) := by
  rintro i b ⟨k, c, h1, h2', h3, h4⟩
  rcases look' i k h1 with ⟨j, k', e1, e2, e3⟩ | ⟨e1, e2⟩
  ·exact .inl ⟨j, e1, k', c, e2, by rw [← renB_view e3]; exact h2', by rw [← hρ _ _ e1]; exact h3, h4⟩
  ·refine .inr ⟨e1, k, c, e2, h2', ?_, h4⟩
   obtain ⟨c', hc'⟩ := h.mem.known e2
   rw [hio _ _ hc'] at h3; rw [hc']; exact h3
 have notMine : ∀ i b, i ∉ L → Mine ι (lookH s.hp) i b → ¬ MineL ι L s1 b := by
  rintro i b hi hm ⟨j, hj⟩
  obtain ⟨id, e1, m⟩ := hS.mine hj
  have := h.mem.one _ _ _ hm m
  subst this
  exact hi (List.mem_iff_getElem?.2 ⟨j, e1⟩)
 have outNot : ∀ b, O b → ¬ MineL ι L s1 b := by
  rintro b ho ⟨j, hj⟩
  obtain ⟨id, e1, m⟩ := hS.mine hj
  exact h.mem.mine_not_outer m ho
 have hX2 : ∀ b, XS ι2 O s' b → XS ι' (OL ι O s L s1) s2 b := by
  rintro b (hb' | ⟨i, hm⟩)
  ·exact .inl ⟨.inl hb', outNot b hb'⟩
  ·rcases mine' i b hm with ⟨j, _, hm⟩ | ⟨hi, hm⟩
   ·exact .inr ⟨j, hm⟩
   ·exact .inl ⟨.inr ⟨i, hm⟩, notMine i b hi hm⟩
 have hX3 : ∀ b, XS ι2 O s' b → XS ι O s b ∨ w.heap.size ≤ b := fun b hb' => (he.own b (hX2 b hb')).imp (hXY b) id
 have hzone : ∀ b, w0.old b → (zoneL h hS).old b := fun b hb' => ⟨h.mem.lt hb', fun hm => hold b hm hb'⟩
 have hE : Ext ι ι2 (XS ι O s) (XS ι2 O s') w w' := by
  refine ⟨he.size, hio, fun b hlt hx => h2.mem.below.block b ⟨hlt, fun hm => ?_⟩, hX3⟩
  obtain ⟨j, hj⟩ := hm
  obtain ⟨id, _, m⟩ := hS.mine hj
  exact hx (.inr ⟨id, m⟩)
 refine ⟨ι2, ⟨⟨?_, h.mem.old_lt, h.mem.outer, ?_, ?_, ?_⟩, ?_⟩, hE, fun v v' c hr hvr => renV_rep hρ hX2 hr hvr⟩
 ·have hk : Keeps w0.old w w' := ⟨h2.mem.below.os, h2.mem.below.tape, h2.mem.below.output, h2.mem.below.size, fun b hb' => h2.mem.below.block b (hzone b hb')⟩
  exact h.mem.below.trans hk
 ·intro i k hk
  rcases look' i k hk with ⟨j, k', e1, e2, e3⟩ | ⟨e1, e2⟩
  ·exact BRep.ren hρ hX2 (hρ _ _ e1) e3 (h2.mem.blk j k' e2)
  ·have same : ∀ b, Mine ι (lookH s.hp) i b → w'.heap[b]? = w.heap[b]? := fun b hm => h2.mem.below.block b ⟨(h.mem.fresh i b hm).2, notMine i b e1 hm⟩
   cases h.mem.blk i k e2 with
   | var hi hs hg hr =>
    rename_i sh v g ds ty
    have hm : Mine ι (lookH s.hp) i g := ⟨_, _, e2, rfl, hi, rfl⟩
    refine .var (hio _ _ hi) hs (?_ : Bas.Blk w' g ty ds) (hr.ext hE)
    unfold Bas.Blk at *
    rw [same g hm]; exact hg
   | row hi hr ho =>
    rename_i ty sh v A n c ds
    refine .row (hio _ _ hi) (hr.ext hE) (ownsRow_same ho fun a' ha => ?_)
    subst ha
    exact same _ ⟨_, _, e2, rfl, hi, rfl⟩
   | view hi hr hw hs => exact .view (hio _ _ hi) (hr.ext hE) hw hs
 ·intro i i' b m1 m2
  rcases mine' i b m1 with ⟨j, r1, q1⟩ | ⟨n1, q1⟩
  ·rcases mine' i' b m2 with ⟨j', r2, q2⟩ | ⟨n2, q2⟩
   ·have := h2.mem.one _ _ _ q1 q2
    subst this
    rw [r1] at r2; injection r2
   ·exact absurd (show (zoneL h hS).old b from ⟨(h.mem.fresh i' b q2).2, notMine i' b n2 q2⟩) (h2.mem.fresh j b q1).1
  ·rcases mine' i' b m2 with ⟨j', r2, q2⟩ | ⟨n2, q2⟩
   ·exact absurd (show (zoneL h hS).old b from ⟨(h.mem.fresh i b q1).2, notMine i b n1 q1⟩) (h2.mem.fresh j' b q2).1
   ·exact h.mem.one _ _ _ q1 q2
 ·intro i b hm
  rcases mine' i b hm with ⟨j, _, q⟩ | ⟨_, q⟩
  ·exact ⟨fun ho => (h2.mem.fresh j b q).1 (hzone b ho), (h2.mem.fresh j b q).2⟩
  ·exact ⟨(h.mem.fresh i b q).1, Nat.lt_of_lt_of_le (h.mem.fresh i b q).2 he.size⟩
 ·intro id hid
  rw [hnx] at hid
  show (if id < s.nx then ι id else ι' (id - s.nx)) = none
  rw [if_neg (by omega)]
  exact h2.fresh _ (by omega)
end
end Go.Am
namespace Go.Am
open Go Go.RowKit Go.Bas
section
variable {ι : Nat → Option Cn} {O : Nat → Prop} {w0 : Zone} {w : World} {P : Program} {s : S} {a : Act}
theorem look_put {sl : List (Nat × V)} {d : Option Nat} {v : V} {t : Nat} : look (put sl d v) t = if d = some t then some v else look sl t := by
 cases d with
 | none => simp [put]
 | some x =>
  simp only [put, look]
  by_cases h : x = t
  ·subst h; simp
  ·have : Nat.beq x t = false := Bool.eq_false_iff.2 (fun hb => h (Nat.eq_of_beq_eq_true hb))
   rw [this, if_neg (by simpa using h)]; rfl
theorem put_size {d : Option Nat} {c : Value} : (a.put d c).tmps.size = a.tmps.size := by cases d <;> simp [Act.put]
theorem put_defers {d : Option Nat} {c : Value} : (a.put d c).defers = a.defers := by cases d <;> simp [Act.put]
theorem put_getD {d : Option Nat} {c : Value} {t : Nat} (ht : t < a.tmps.size) : (a.put d c).tmps.getD t Go.undef = if d = some t then c else a.tmps.getD t Go.undef := by
 cases d with
 | none => simp [Act.put]
 | some x =>
  simp only [Act.put, Array.getD_eq_getD_getElem?, Array.getElem?_setIfInBounds]
  by_cases h : x = t
  ·subst h; simp [ht]
  ·simp [h]
theorem dstOk_lt {n t : Nat} (h : dstOk n (some t) = true) : t < n := Nat.le_of_ble_eq_true h
theorem Sim.put' (h : Sim ι O w0 s a w) {ι' : Nat → Option Cn} {d : Option Nat} {v : V} {c : Value} {w' : World} {s' : S} (hd : dstOk s.n d = true) (hm : MSim ι' O w0 s' w') (he : Ext ι ι' (XS ι O s) (XS ι' O s') w w')
  (hv : VRep ι' (XS ι' O s') w' v c) (hsl : s'.sl = put s.sl d v) (hn : s'.n = s.n) : Sim ι' O w0 s' (a.put d c) w' := by
 refine ⟨hm, by rw [put_size, hn]; exact h.size, fun t u hu => ?_, by rw [put_defers]; exact h.defers⟩
 rw [hsl, look_put] at hu
 by_cases ht : d = some t
 ·subst ht
  rw [if_pos rfl] at hu; injection hu with hu; subst hu
  have := dstOk_lt hd
  refine ⟨by rw [hn]; exact this, ?_⟩
  rw [put_getD (by rw [h.size]; exact this), if_pos rfl]
  exact hv
 ·rw [if_neg ht] at hu
  obtain ⟨h1, h2⟩ := h.slots t u hu
  refine ⟨by rw [hn]; exact h1, ?_⟩
  rw [put_getD (by rw [h.size]; exact h1), if_neg ht]
  exact h2.ext he
theorem Sim.nxt (h : Sim ι O w0 s a w) {d : Option Nat} {v : V} {wr : List (Nat × Option Blk)} {c : Value} {w' : World} {ob : Bool} (hd : dstOk s.n d = true) (hp : Post ι O w0 (lookH s.hp) w s.nx v wr w' c) :
  Nxt ι O w0 s w ⟨put s.sl d v, wr ++ s.hp, s.nx + 1, ob, s.n⟩ (a.put d c) w' := by
 obtain ⟨ι', h1, h2, h3, h4⟩ := hp
 have e : lookH (wr ++ s.hp) = updH wr (lookH s.hp) := lookH_append _ _
 have hx : XS ι' O ⟨put s.sl d v, wr ++ s.hp, s.nx + 1, ob, s.n⟩ = Ex1 ι' (updH wr (lookH s.hp)) O := by unfold XS; rw [e]
 have he : Ext ι ι' (XS ι O s) (XS ι' O ⟨put s.sl d v, wr ++ s.hp, s.nx + 1, ob, s.n⟩) w w' := by rw [hx]; exact h2
 refine ⟨ι', h.put' hd ⟨by show HSim _ _ _ (lookH (wr ++ s.hp)) _; rw [e]; exact h1, fun id hid => ?_⟩ he (by rw [hx]; exact h3) rfl rfl, he⟩
 have hid : s.nx + 1 ≤ id := hid
 rw [h4 id (by omega)]
 exact h.fresh id (by omega)
theorem Sim.ob (h : Sim ι O w0 s a w) (b : Bool) : Sim ι O w0 { s with ob := b } a w := ⟨⟨h.mem, h.fresh⟩, h.size, h.slots, h.defers⟩
theorem Sim.skip (h : Sim ι O w0 s a w) {o : Oper} (hd : dstOk s.n o.dst = true) : Nxt ι O w0 s w (skipO o s) (a.put o.dst Go.undef) w :=
 ⟨ι, h.put' hd ⟨h.mem, fun id hid => h.fresh id (by have : s.nx + 1 ≤ id := hid; omega)⟩ Ext.refl .void rfl rfl, Ext.refl⟩
theorem Sim.setS (h : Sim ι O w0 s a w) {t : Nat} {b c : Bool} (ht : look s.sl t = some (.bool b)) (hb : b = c) : Sim ι O w0 (setS s t c) a w := by
 subst hb
 refine ⟨⟨h.mem, h.fresh⟩, h.size, fun u v hu => ?_, h.defers⟩
 have hu : look ((t, V.bool b) :: s.sl) u = some v := hu
 simp only [look] at hu
 cases hq : Nat.beq t u with
 | true =>
  rw [hq] at hu; injection hu with hu; subst hu
  have := Nat.eq_of_beq_eq_true hq
  subst this
  exact h.slots t _ ht
 | false => rw [hq] at hu; exact h.slots u v hu
theorem Nxt.trans {s1 s2 : S} {a1 : Act} {w1 w2 : World} {a2 : Act} (h : Nxt ι O w0 s w s1 a1 w1) (k : ∀ ι1, Sim ι1 O w0 s1 a1 w1 → Nxt ι1 O w0 s1 w1 s2 a2 w2) : Nxt ι O w0 s w s2 a2 w2 := by
 obtain ⟨ι1, h1, h2⟩ := h
 obtain ⟨ι2, k1, k2⟩ := k ι1 h1
 exact ⟨ι2, k1, h2.trans k2⟩
theorem cv_rep {v : V} {c : Value} {X : Nat → Prop} (h : cv c = some v) : VRep ι X w v c := by
 unfold cv at h
 split at h <;> first | (cases h; done) | skip
 ·rename_i k n
  obtain ⟨h8, h⟩ := ofBif h
  injection h with h; subst h
  refine VRep.i fun hk => ?_
  subst hk
  simpa [u8Ok] using h8
 all_goals injection h with h; subst h
 ·exact VRep.b
 ·rename_i s
  have := VRep.s (ι := ι) (O := X) (w := w) (l := s.data.toList)
  simpa using this
 ·exact .one .nils rfl
 ·exact .one .nilp rfl
 ·exact .one .nilf rfl
 ·exact .one .nili rfl
 ·exact .one .nilm rfl
theorem Sim.evO (h : Sim ι O w0 s a w) {x : Operand} {v : V} (hx : evO s.sl x = some v) : VRep ι (XS ι O s) w v (a.eval x) := by
 cases x with
 | tmp t => exact (h.slots t v hx).2
 | const c => exact cv_rep hx
 | func f =>
  injection hx with hx; subst hx
  exact .one (.fn .nil .nil) rfl
 | global g => cases hx
theorem Sim.evOs (h : Sim ι O w0 s a w) : ∀ (xs : List Operand) {vs : List V}, mapO (Am.evO s.sl) xs = some vs → VReps ι (XS ι O s) w vs (xs.map a.eval)
 | [], vs, hx => by injection hx with hx; subst hx; exact .nil
 | x :: xs, vs, hx => by
  simp only [mapO] at hx
  cases h1 : Am.evO s.sl x with
  | none => rw [h1] at hx; cases hx
  | some v =>
   cases h2 : mapO (Am.evO s.sl) xs with
   | none => rw [h1, h2] at hx; cases hx
   | some l =>
    rw [h1, h2] at hx; injection hx with hx; subst hx
    exact .cons (h.evO h1) (h.evOs xs h2)
def exOf : Ex → Exit
 | .normal => .normal
 | .exit id => .exit id
 | .ret => .ret
 | .goto l => .goto l
 | .pan ch => .panic ch
inductive Leaf : Tr → Ex → S → Prop
 | leaf {e s} : Leaf (.leaf e s) e s
 | t {x y e s} (h : Leaf x e s) : Leaf (.br true x y) e s
 | f {x y e s} (h : Leaf y e s) : Leaf (.br false x y) e s
def LoopOk (P : Program) (c : Code) (vs : List Nat) (g : S → Option (Bool × Tr)) : Prop :=
 ∀ s t, g s = some (true, t) → ∀ (ι : Nat → Option Cn) (O : Nat → Prop) (w0 : Zone) (a : Act) (w : World), Sim ι O w0 s a w → s.ob = true →
  (Code.loop c).wp P (fun e a' w' => ∃ e' s', Leaf t e' s' ∧ e = exOf e' ∧ ∃ ι', Sim ι' O w0 s' a' w' ∧ ExtP (· ∈ vs) ι ι' (XS ι O s) (XS ι' O s') w w') a w
def JumpWp (P : Program) (c : Code) (l : Nat) (Q : Exit → Act → World → Prop) (a : Act) (w : World) : Prop :=
 ∃ rest, findLabel c l = some rest ∧ ∀ (b : Frame) (k : List Item) (cs : List Frame), ∃ e a' w', Q e a' w' ∧ Arrives P (lone (b.at a (.code rest :: .inScope c :: k)) cs w) b k cs e a' w'
theorem jumpWp_of {P : Program} {Q : Exit → Act → World → Prop} {c rest : Code} (l : Nat) (J : Act → World → Prop) (μ : Act → World → Nat) (hf : findLabel c l = some rest)
  (pass : ∀ a w, J a w → rest.wp P (Exit.jump l (fun a' w' => J a' w' ∧ μ a' w' < μ a w) Q) a w) {a : Act} {w : World} (h0 : J a w) : JumpWp P c l Q a w := by
 refine ⟨rest, hf, fun b k cs => ?_⟩
 have hg : gotoIn l (.inScope c :: k) = some (.code rest :: .inScope c :: k) := by simp [gotoIn, hf]
 have key : ∀ n a w, μ a w = n → J a w → ∃ e a' w', Q e a' w' ∧ Arrives P (lone (b.at a (.code rest :: .inScope c :: k)) cs w) b k cs e a' w' := by
  intro n
  induction n using Nat.strongRecOn with
  | _ n ih =>
   intro a w hn hJ
   obtain ⟨e, a₁, w₁, hq, harr⟩ := pass a w hJ b (.inScope c :: k) cs
   cases e with
   | normal => exact ⟨.normal, a₁, w₁, hq, Steps.trans harr (.one step_inScope)⟩
   | exit id => exact ⟨.exit id, a₁, w₁, hq, fun k' hk => harr k' (by simp [exitTo, hk])⟩
   | goto l' =>
    obtain ⟨rfl, hJ', hlt⟩ := hq
    obtain ⟨e₂, a₂, w₂, hq₂, harr₂⟩ := ih _ (by omega) a₁ w₁ rfl hJ'
    exact ⟨e₂, a₂, w₂, hq₂, .of_steps (harr _ hg) harr₂⟩
   | ret => exact ⟨_, a₁, w₁, hq, harr⟩
   | panic ch => exact ⟨_, a₁, w₁, hq, harr⟩
   | outgrown => exact ⟨_, a₁, w₁, hq, harr⟩
 exact key _ a w rfl h0
theorem wp_scope_to {P : Program} {Q : Exit → Act → World → Prop} {c : Code} (l : Nat) {a : Act} {w : World} (h : c.wp P (Exit.jump l (JumpWp P c l Q) Q) a w) : (Code.scope c).wp P Q a w := by
 intro b k cs
 obtain ⟨e, a₁, w₁, hq, harr⟩ := h b (.inScope c :: k) cs
 cases e with
 | normal => exact ⟨.normal, a₁, w₁, hq, .head step_scope (Steps.trans harr (.one step_inScope))⟩
 | exit id => exact ⟨.exit id, a₁, w₁, hq, fun k' hk => .head step_scope (harr k' (by simp [exitTo, hk]))⟩
 | goto l' =>
  obtain ⟨rfl, rest, hf, hJ⟩ := hq
  obtain ⟨e₂, a₂, w₂, hq₂, harr₂⟩ := hJ b k cs
  have hg : gotoIn l' (.inScope c :: k) = some (.code rest :: .inScope c :: k) := by simp [gotoIn, hf]
  exact ⟨e₂, a₂, w₂, hq₂, .of_steps (.head step_scope (harr _ hg)) harr₂⟩
 | ret => exact ⟨_, a₁, w₁, hq, .of_steps (.one step_scope) harr⟩
 | panic ch => exact ⟨_, a₁, w₁, hq, .of_steps (.one step_scope) harr⟩
 | outgrown => exact ⟨_, a₁, w₁, hq, .of_steps (.one step_scope) harr⟩
def JumpOk (P : Program) (c : Code) (l : Nat) (vs : List Nat) (g : S → Option (Bool × Tr)) : Prop :=
 ∀ s t, g s = some (true, t) → ∀ (ι : Nat → Option Cn) (O : Nat → Prop) (w0 : Zone) (a : Act) (w : World), Sim ι O w0 s a w → s.ob = true →
  JumpWp P c l (fun e a' w' => ∃ e' s', Leaf t e' s' ∧ e = exOf e' ∧ ∃ ι', Sim ι' O w0 s' a' w' ∧ ExtP (· ∈ vs) ι ι' (XS ι O s) (XS ι' O s') w w') a w
def LoopsOk (P : Program) : AC → Prop
 | .seq a b => LoopsOk P a ∧ LoopsOk P b
 | .cond _ a b => LoopsOk P a ∧ LoopsOk P b
 | .block _ a => LoopsOk P a
 | .loop c _ vs g => LoopOk P c.erase vs g
 | .unr _ c => LoopsOk P c
 | .scope c _ l _ vs g => LoopsOk P c ∧ JumpOk P c.erase l vs g
 | _ => True
def RefOk (P : Program) (f : FuncId) (vs : List Nat) (F : S → Option (Bool × Tr)) : Prop :=
 ∀ s1 t, F s1 = some (true, t) → ∀ (ι : Nat → Option Cn) (O : Nat → Prop) (w0 : Zone) (w : World) (as : List V) (cs : List Value), s1.sl = slots 0 as → s1.ob = true → MSim ι O w0 s1 w → VReps ι (XS ι O s1) w as cs →
  Calls P f cs.toArray w fun e w' => ∃ ex s2 c v ι', Leaf t ex s2 ∧ e = .returned c ∧ look s2.sl 0 = some v ∧ MSim ι' O w0 s2 w' ∧ ExtP (· ∈ vs) ι ι' (XS ι O s1) (XS ι' O s2) w w' ∧ VRep ι' (XS ι' O s2) w' v c
structure AfOk (P : Program) (f : FuncId) (af : AF) : Prop where
 enter : ∀ (args : Array Value) (w : World), (callFunc f args).run P w = .ok (.enter f args) w
 code : ∃ fn, P.funcs[f]? = some fn ∧ fn.body = some af.ac.erase ∧ fn.results.toList = af.results ∧ fn.ntmps = af.n
 loops : LoopsOk P af.ac
inductive PTo : PT → V ⊕ List PanicEntry → Prop
 | val {v} : PTo (.val v) (.inl v)
 | pan {ch} : PTo (.pan ch) (.inr ch)
 | t {x y r} (h : PTo x r) : PTo (.br true x y) r
 | f {x y r} (h : PTo y r) : PTo (.br false x y) r
def SpecP (P : Program) (f : FuncId) (vs : List V) : V ⊕ List PanicEntry → Prop
 | .inl v => SpecV P f vs v
 | .inr ch => SpecN P f vs ch
def XOk (P : Program) (X : List (Nat × (List Sh × (List V → PT)))) : Prop := ∀ f ps F, look X f = some (ps, F) →
 (∀ (args : Array Value) (w : World), (callFunc f args).run P w = .ok (.enter f args) w) ∧ ∀ vs r, PTo (F vs) r → SpecP P f vs r
theorem runPT_ok {R : Type} {kv : V → Option R} {kp : List PanicEntry → Option R} {r : R} : ∀ {t : PT}, runPT kv kp t = some r → (∃ v, PTo t (.inl v) ∧ kv v = some r) ∨ (∃ ch, PTo t (.inr ch) ∧ kp ch = some r)
 | .val v, h => .inl ⟨v, .val, h⟩
 | .pan ch, h => .inr ⟨ch, .pan, h⟩
 | .no, h => by cases h
 | .br true x y, h => (runPT_ok (t := x) h).imp (fun ⟨v, a, b⟩ => ⟨v, .t a, b⟩) fun ⟨v, a, b⟩ => ⟨v, .t a, b⟩
 | .br false x y, h => (runPT_ok (t := y) h).imp (fun ⟨v, a, b⟩ => ⟨v, .f a, b⟩) fun ⟨v, a, b⟩ => ⟨v, .f a, b⟩
structure EnvOk (E : Env) : Prop where
 mixed : E.P.follows .mixedOrders = true
 con : GOk E.P E.G
 inl : ∀ f af, look E.I f = some af → AfOk E.P f af
 ref : ∀ f vs F, look E.C f = some (vs, F) → (∀ (args : Array Value) (w : World), (callFunc f args).run E.P w = .ok (.enter f args) w) ∧ RefOk E.P f vs F
 pan : XOk E.P E.X
end
section
variable {R : Type} {E : Env} {inl : AF → List V → S → (V → S → Option R) → Option R} {kp : List PanicEntry → S → Option R}
def InlOk (E : Env) (inl : AF → List V → S → (V → S → Option R) → Option R) : Prop :=
 ∀ f af, AfOk E.P f af → ∀ (as : List V) (s : S) (k : V → S → Option R) (r : R), inl af as s k = some r → ∀ (ι : Nat → Option Cn) (O : Nat → Prop) (w0 : Zone) (w : World) (cs : List Value), MSim ι O w0 s w → s.ob = true →
  VReps ι (XS ι O s) w as cs → Calls E.P f cs.toArray w fun e w' => ∃ c v s' ι', e = .returned c ∧ k v s' = some r ∧ s'.ob = true ∧ MSim ι' O w0 s' w' ∧ Ext ι ι' (XS ι O s) (XS ι' O s') w w' ∧ VRep ι' (XS ι' O s') w' v c
def Strict (k : S → Option R) : Prop := ∀ s, s.ob = false → k s = none
variable {ι : Nat → Option Cn} {O : Nat → Prop} {w0 : Zone} {w : World} {s : S} {a : Act}
theorem inlOf_spec {o : Oper} {vs : List V} {f : FuncId} {af : AF} {as : List V} (h : inlOf E o vs = some (f, af, as)) : target E.P o vs = some (f, as) ∧ look E.I f = some af := by
 unfold inlOf at h
 cases h1 : target E.P o vs with
 | none => rw [h1] at h; cases h
 | some p =>
  obtain ⟨f', as'⟩ := p
  cases h2 : look E.I f' with
  | none => simp only [h1, h2] at h; cases h
  | some af' =>
   simp only [h1, h2, Option.some.injEq, Prod.mk.injEq] at h
   obtain ⟨rfl, rfl, rfl⟩ := h
   exact ⟨rfl, h2⟩
theorem target_run {P : Program} {X : Nat → Prop} {o : Oper} {vs : List V} {f : FuncId} {as : List V} (h : target P o vs = some (f, as)) (hv : VReps ι X w vs ((opnds o).map a.eval)) :
  ∃ cs, VReps ι X w as cs ∧ (execOp a.eval o).run P w = (callFunc f cs.toArray).run P w := by
 obtain ⟨dst, op, type, pos, aft, guard⟩ := o
 cases op with
 | call c =>
  obtain ⟨cal, args, ats⟩ := c
  have e : args.map a.eval = (args.toList.map a.eval).toArray := Array.ext' (by simp)
  cases cal with
  | value x =>
   have gen : ∀ {f' b c vs''}, vs = .fn f' b c :: vs'' → (f', b ++ vs'' ++ c) = (f, as) → VReps ι X w vs (a.eval x :: args.toList.map a.eval) → ∃ cs, VReps ι X w as cs ∧ (execOp a.eval ⟨dst, .call ⟨.value x, args, ats⟩, type, pos, aft, guard⟩).run P w = (callFunc f cs.toArray).run P w := by
    rintro f' b c vs'' rfl he hv'
    injection he with e1 e2; subst e1; subst e2
    obtain ⟨d, ds, hcs, p, q⟩ := VReps.cons_inv hv'
    injection hcs with h1 h2
    obtain ⟨cas, cbs, hc, pa, pb⟩ := p.fn_inv
    rw [hc] at h1
    refine ⟨_, (pa.append q).append pb, ?_⟩
    simp [execOp, resolve, invoke, h1, Deferred.ofValue, e, h2]
   cases x with
   | func f' =>
    injection h with h; injection h with e1 e2; subst e1; subst e2
    have hv' : VReps ι X w vs (args.toList.map a.eval) := hv
    exact ⟨_, hv', by simp [execOp, resolve, invoke, Act.eval, Deferred.ofValue, e]⟩
   | _ =>
    cases vs with
    | nil => cases h
    | cons v vs =>
     cases v with
     | fn f' b c => injection h with h; exact gen rfl h hv
     | _ => cases h
  | invoke x m =>
   cases vs with
   | nil => cases h
   | cons v vs =>
    cases v with
    | ifc t u =>
     simp only [target] at h
     obtain ⟨ho, h⟩ := ofBif h
     split at h
     ·rename_i f' pr hm
      injection h with h; injection h with e1 e2; subst e1; subst e2
      obtain ⟨d, ds, hcs, p, q⟩ := VReps.cons_inv (show VReps ι X w (.ifc t u :: vs) (a.eval x :: args.toList.map a.eval) from hv)
      injection hcs with h1 h2
      obtain ⟨c, hc, pu⟩ := p.ifc_inv
      have hvu : VRep ι X w u c := .one pu (by cases u <;> first | rfl | cases ho)
      refine ⟨c :: args.toList.map a.eval, by rw [h2]; exact .cons hvu q, ?_⟩
      have e : args.map a.eval = (args.toList.map a.eval).toArray := Array.ext' (by simp)
      rw [hc] at h1
      have := run_invoke (P := P) (w := w) hm (c := c) (cs := args.toList.map a.eval)
      rw [← this]
      have e3 : (args.toList.map a.eval).take args.size = args.toList.map a.eval := by rw [List.take_of_length_le (by simp)]
      simp [execOp, resolve, invoke, h1, e, e3]
     ·cases h
    | _ => cases h
  | _ => cases vs <;> cases h
 | _ => cases vs <;> cases h
theorem refOf_spec {o : Oper} {vs : List V} {ws : List Nat} {F : S → Option (Bool × Tr)} {as : List V} (h : refOf E o vs = some (ws, F, as)) : ∃ f, target E.P o vs = some (f, as) ∧ look E.C f = some (ws, F) := by
 unfold refOf at h
 cases h1 : target E.P o vs with
 | none => rw [h1] at h; cases h
 | some p =>
  obtain ⟨f', as'⟩ := p
  cases h2 : look E.C f' with
  | none => simp only [h1, h2] at h; cases h
  | some q =>
   obtain ⟨ws', F'⟩ := q
   simp only [h1, h2, Option.some.injEq, Prod.mk.injEq] at h
   obtain ⟨rfl, rfl, rfl⟩ := h
   exact ⟨f', rfl, h2⟩
theorem look_slots {t : Nat} : ∀ (as : List V) (i : Nat), i ≤ t → look (slots i as) t = as[t - i]?
 | [], i, h => by simp [slots, look]
 | x :: as, i, h => by
  simp only [slots, look]
  rcases Nat.lt_or_ge i t with h1 | h1
  ·have hb : Nat.beq i t = false := Bool.eq_false_iff.2 fun e => by have := Nat.eq_of_beq_eq_true e; omega
   rw [hb, cond_false, look_slots as (i + 1) h1]
   rw [show t - i = (t - (i + 1)) + 1 by omega, List.getElem?_cons_succ]
  ·have e : i = t := by omega
   subst e
   simp
theorem keepS_slots {s : S} : ∀ (as : List V) (i : Nat) {l : List (Nat × V)}, (∀ j, j < as.length → look s.sl (i + j) = as[j]?) → keepS s (List.range' i as.length) = some l → l = slots i as
 | [], i, l, _, h => by injection h with h; exact h.symm
 | x :: as, i, l, hl, h => by
  simp only [List.length_cons, List.range'_succ, keepS] at h
  have h0 := hl 0 (by simp)
  simp only [Nat.add_zero, List.getElem?_cons_zero] at h0
  rw [h0] at h
  split at h
  ·rename_i v hv
   injection hv with hv; subst hv
   split at h
   ·rename_i l' hl'
    injection h with h; subst h
    rw [keepS_slots as (i + 1) (fun j hj => by
     have := hl (j + 1) (by simp; omega)
     rw [show i + 1 + j = i + (j + 1) by omega, this, List.getElem?_cons_succ]) hl']
    rfl
   ·cases h
  ·cases h
theorem renS_slots {ρ : Nat → Option Nat} : ∀ (as : List V) (i : Nat) {l : List (Nat × V)}, renS ρ (slots i as) = some l → ∃ bs, renVs ρ as = some bs ∧ l = slots i bs
 | [], i, l, h => by injection h with h; subst h; exact ⟨[], rfl, rfl⟩
 | x :: as, i, l, h => by
  simp only [slots, renS] at h
  split at h
  ·rename_i y hy
   split at h
   ·rename_i l' hl'
    injection h with h; subst h
    obtain ⟨bs, h1, h2⟩ := renS_slots as (i + 1) hl'
    exact ⟨y :: bs, by simp only [renVs, hy, h1], by rw [h2]; rfl⟩
   ·cases h
  ·cases h
theorem runTr_leaf {R : Type} {k : Ex → S → Option R} {r : R} {t : Tr} {e : Ex} {s : S} (h : Leaf t e s) (hx : runTr k t = some r) : k e s = some r := by
 induction h with
 | leaf => exact hx
 | t _ ih => exact ih hx
 | f _ ih => exact ih hx
theorem callR_ok (hE : EnvOk E) {f : FuncId} {ws : List Nat} {F : S → Option (Bool × Tr)} (hf : look E.C f = some (ws, F)) {as : List V} {k : V → S → Option R} {r : R} (hx : callR ws F as s k = some r) {cs : List Value} (hm : MSim ι O w0 s w) (hv : VReps ι (XS ι O s) w as cs) :
  Calls E.P f cs.toArray w fun e w' => ∃ c v s' ι', e = .returned c ∧ k v s' = some r ∧ MSim ι' O w0 s' w' ∧ Ext ι ι' (XS ι O s) (XS ι' O s') w w' ∧ VRep ι' (XS ι' O s') w' v c := by
 obtain ⟨_, hR⟩ := hE.ref f ws F hf
 unfold callR at hx
 split at hx
 ·rename_i L s1 hn
  obtain ⟨hvo, hx⟩ := ofBif hx
  split at hx
  ·rename_i cc tr hF
   obtain ⟨hcc, hx⟩ := ofBif hx
   subst hcc
   have hS := norm_small hn
   have hm0 : MSim ι O w0 { s with sl := slots 0 as } w := ⟨hm.mem, hm.fresh⟩
   obtain ⟨q1, q2, q3⟩ := hm0.front hS
   have hargs : ∃ bs, renVs (idxN L) as = some bs ∧ s1.sl = slots 0 bs := by
    unfold Am.norm at hn
    split at hn
    ·rename_i l hl
     have e : l = slots 0 as := keepS_slots (s := { s with sl := slots 0 as }) as 0 (fun j hj => by
      have := look_slots (t := 0 + j) as 0 (Nat.zero_le _)
      rw [this]; simp) (by rw [← List.range_eq_range']; exact hl)
     subst e
     simp only at hn
     split at hn
     ·rename_i sl hsl
      split at hn
      ·injection hn with hn; injection hn with e1 e2; subst e1; subst e2
       exact renS_slots as 0 hsl
      ·cases hn
     ·cases hn
    ·cases hn
   obtain ⟨bs, r1, r2⟩ := hargs
   have hv1 := (rens_rep (ι := ι) (w := w) (X := XS ι O s) (Y := XS (ιL ι L) (OL ι O { s with sl := slots 0 as } L s1) s1) (Ren.idx (L := L)) q2 as r1).2 hv
   refine (hR s1 tr hF _ _ _ w bs cs r2 hS.ob q1 hv1).mono ?_
   rintro e w' ⟨ex, s2, c, u, ι', hlf, rfl, hu, p1, p2, p3⟩
   have hx := runTr_leaf hlf hx
   split at hx
   ·rename_i s3 hb
    split at hx
    ·rename_i v' hlk
     have hb0 := hb
     unfold back at hb
     split at hb
     ·rename_i sl hsl
      split at hb
      ·rename_i hp hhp
       injection hb with hb; subst hb
       obtain ⟨ι2, z1, z2, z3⟩ := hm0.back hS hvo p1 p2 hhp (s' := ⟨sl, hp ++ (L.map (fun i => (i, none)) ++ s.hp), s.nx + s2.nx, true, s2.n⟩) rfl rfl
       obtain ⟨u', k1, k2⟩ := renS_look hsl hlk
       rw [hu] at k1; injection k1 with k1; subst k1
       exact ⟨c, v', _, ι2, rfl, hx, z1, z2, z3 _ _ _ k2 p3⟩
      ·cases hb
     ·cases hb
    ·cases hx
   ·cases hx
  ·cases hx
 ·cases hx
theorem panOf_spec {o : Oper} {vs : List V} {ps : List Sh} {F : List V → PT} {as : List V} (h : panOf E o vs = some ((ps, F), as)) : ∃ f, target E.P o vs = some (f, as) ∧ look E.X f = some (ps, F) := by
 unfold panOf at h
 cases h1 : target E.P o vs with
 | none => rw [h1] at h; cases h
 | some p =>
  obtain ⟨f', as'⟩ := p
  cases h2 : look E.X f' with
  | none => simp only [h1, h2] at h; cases h
  | some q =>
   obtain ⟨ps', F'⟩ := q
   simp only [h1, h2, Option.some.injEq, Prod.mk.injEq] at h
   obtain ⟨⟨rfl, rfl⟩, rfl⟩ := h
   exact ⟨f', rfl, h2⟩
theorem dynT_spec {o : Oper} {vs : List V} {f : FuncId} {as : List V} (h : dynT E o vs = some (f, as)) : target E.P o vs = some (f, as) := by
 unfold dynT at h
 obtain ⟨_, h⟩ := ofBif h
 obtain ⟨dst, op, type, pos, aft, guard⟩ := o
 cases op with
 | call c =>
  obtain ⟨cal, args, ats⟩ := c
  cases cal with
  | value x =>
   cases x with
   | tmp t =>
    cases vs with
    | nil => cases h
    | cons v vs =>
     cases v with
     | fn f' b c => exact h
     | _ => cases h
   | _ => cases h
  | _ => cases h
 | _ => cases h
theorem dynC_spec {f : FuncId} {k : AF → Option R} {d : Option R} {r : R} : ∀ {I : List (Nat × AF)}, dynC f k d I = some r → (∃ af, look I f = some af ∧ k af = some r) ∨ d = some r
 | [], h => .inr h
 | (a, af) :: I, h => by
  unfold dynC at h
  cases hq : Nat.beq a f with
  | true =>
   rw [hq] at h
   exact .inl ⟨af, by simp only [look, hq, cond_true], h⟩
  | false =>
   rw [hq] at h
   rcases dynC_spec (I := I) h with ⟨af', h1, h2⟩ | h1
   ·exact .inl ⟨af', by simp only [look, hq, cond_false]; exact h1, h2⟩
   ·exact .inr h1
theorem exec_ok (hE : EnvOk E) (hI : InlOk E inl) {o : Oper} {k : S → Option R} {r : R} (hk : Strict k) (hx : exec E inl kp o s k = some r) (hs : Sim ι O w0 s a w) (hob : s.ob = true)
  {K : Act → World → Prop} {Q : Exit → Act → World → Prop} (hK : ∀ s' a' w', k s' = some r → s'.ob = true → Nxt ι O w0 s w s' a' w' → K a' w')
  (hP : ∀ ch s' a' w', kp ch s' = some r → s'.ob = true → Nxt ι O w0 s w s' a' w' → Q (.panic ch) a' w') : o.wp E.P a w K Q := by
 unfold exec at hx
 obtain ⟨hd, hx⟩ := ofBif hx
 split at hx
 ·cases hx
 ·rename_i vs hvs
  have hv := hs.evOs _ hvs
  have key : (∃ f af as, target E.P o vs = some (f, as) ∧ look E.I f = some af ∧ (bif s.ob then inl af as s fun v s' => k { s' with sl := put s.sl o.dst v, nx := s'.nx + 1, n := s.n } else none) = some r) ∨ execN E inl kp o s vs k = some r := by
   split at hx
   ·rename_i f as hd'
    rcases dynC_spec hx with ⟨af, h1, h2⟩ | h1
    ·exact .inl ⟨f, af, as, dynT_spec hd', h1, h2⟩
    ·exact .inr h1
   ·exact .inr hx
  clear hx
  rcases key with ⟨f, af, as, h1, h2, hx⟩ | hx
  ·obtain ⟨_, hx⟩ := ofBif hx
   obtain ⟨cs, h3, h4⟩ := target_run (P := E.P) h1 hv
   have haf := hE.inl f af h2
   rw [haf.enter] at h4
   refine wp_enter h4 (hI f af haf as s _ r hx ι O w0 w cs hs.toMSim hob h3) ?_
   rintro e w' ⟨c, v, s', ι', rfl, hkr, hob', hm, he, hvr⟩
   refine ⟨c, rfl, hK _ _ _ hkr hob' ⟨ι', ?_, he⟩⟩
   exact hs.put' (s' := { s' with sl := put s.sl o.dst v, nx := s'.nx + 1, n := s.n }) hd ⟨hm.mem, fun id hid => hm.fresh id (by have : s'.nx + 1 ≤ id := hid; omega)⟩ he hvr rfl rfl
  unfold execN at hx
  split at hx
  ·rename_i ps F as0 hpo
   obtain ⟨_, hx⟩ := ofBif hx
   obtain ⟨f, h1, h2⟩ := panOf_spec hpo
   obtain ⟨cs, h3, h4⟩ := target_run (P := E.P) h1 hv
   obtain ⟨he, hsp⟩ := hE.pan f ps F h2
   split at hx
   ·rename_i as hlw
    rcases runPT_ok hx with ⟨v, hpt, hkv⟩ | ⟨ch, hpt, hkp⟩
    ·split at hkv
     ·rename_i res hres
      have hro : res.ob = true := by
       unfold resR at hres
       cases hb : (!flatV v && anyVar (lookH s.hp) as0) with
       | true => rw [hb] at hres; cases hres
       | false => rw [hb] at hres; injection hres with hres; subst hres; rfl
      refine op_val hs.mem (hs.fresh _ (Nat.le_refl _)) h3 hlw he (hsp _ _ hpt) hres h4 fun c w' hp => hK _ _ _ hkv (by show andT s.ob res.ob = true; rw [hro, hob]; rfl) ?_
      exact hs.nxt hd hp
     ·cases hkv
    ·refine op_pan hs.mem h3 hlw he (hsp _ _ hpt) h4 fun w' q1 q2 => hP ch s a w' hkp hob ⟨ι, ⟨⟨q1, hs.fresh⟩, hs.size, fun t v ht => ⟨(hs.slots t v ht).1, (hs.slots t v ht).2.ext q2⟩, hs.defers⟩, q2⟩
   ·cases hx
  split at hx
  ·rename_i f af as hin
   obtain ⟨_, hx⟩ := ofBif hx
   obtain ⟨h1, h2⟩ := inlOf_spec hin
   obtain ⟨cs, h3, h4⟩ := target_run (P := E.P) h1 hv
   have haf := hE.inl f af h2
   rw [haf.enter] at h4
   refine wp_enter h4 (hI f af haf as s _ r hx ι O w0 w cs hs.toMSim hob h3) ?_
   rintro e w' ⟨c, v, s', ι', rfl, hkr, hob', hm, he, hvr⟩
   refine ⟨c, rfl, hK _ _ _ hkr hob' ⟨ι', ?_, he⟩⟩
   exact hs.put' (s' := { s' with sl := put s.sl o.dst v, nx := s'.nx + 1, n := s.n }) hd ⟨hm.mem, fun id hid => hm.fresh id (by have : s'.nx + 1 ≤ id := hid; omega)⟩ he hvr rfl rfl
  ·split at hx
   ·rename_i ws F as hrf
    obtain ⟨_, hx⟩ := ofBif hx
    obtain ⟨f, h1, h2⟩ := refOf_spec hrf
    obtain ⟨cs, h3, h4⟩ := target_run (P := E.P) h1 hv
    rw [(hE.ref f ws F h2).1] at h4
    refine wp_enter h4 (callR_ok hE h2 hx hs.toMSim h3) ?_
    rintro e w' ⟨c, v, s', ι', rfl, hkr, hm, he, hvr⟩
    refine ⟨c, rfl, hK _ _ _ hkr rfl ⟨ι', ?_, he⟩⟩
    exact hs.put' (s' := ⟨put s.sl o.dst v, s'.hp, s'.nx + 1, true, s.n⟩) hd ⟨hm.mem, fun id hid => hm.fresh id (by have : s'.nx + 1 ≤ id := hid; omega)⟩ he hvr rfl rfl
   split at hx
   ·rename_i res hact
    cases hro : res.ob with
    | false =>
     rw [hk _ (by show andT s.ob res.ob = false; rw [hro]; rfl)] at hx
     cases hx
    | true =>
     refine act_ok hE.con hs.mem (hs.fresh _ (Nat.le_refl _)) hv hact hro fun c w' hp => hK _ _ _ hx (by show andT s.ob res.ob = true; rw [hro, hob]; rfl) ?_
     exact hs.nxt hd hp
   ·cases hx
theorem runOps_strict {all : List Oper} : ∀ (ops : List Oper) {k : S → Option R}, Strict k → ∀ s, s.ob = false → runOps E inl kp all ops s k = none := by
 intro ops
 induction ops with
 | nil => intro k hk s hs; exact hk s hs
 | cons o ops ih =>
  intro k hk s hs
  have he : ∀ s : S, s.ob = false → exec E inl kp o s (fun s => runOps E inl kp all ops s k) = none := by
   intro s hs
   unfold exec
   cases dstOk s.n o.dst with
   | false => rfl
   | true =>
    simp only [cond_true]
    have hN : ∀ vs, execN E inl kp o s vs (fun s => runOps E inl kp all ops s k) = none := by
     intro vs
     unfold execN
     split
     ·rw [hs]; rfl
     ·split
      ·rw [hs]; rfl
      ·split
       ·rw [hs]; rfl
       ·split
        ·rename_i r0 _; exact ih hk _ (by show andT s.ob r0.ob = false; rw [hs]; cases r0.ob <;> rfl)
        ·rfl
    split
    ·rfl
    ·split
     ·rename_i vs _ _ f as _
      have : ∀ I : List (Nat × AF), dynC f (fun af => bif s.ob then inl af as s fun v s' => runOps E inl kp all ops { s' with sl := put s.sl o.dst v, nx := s'.nx + 1, n := s.n } k else none) (execN E inl kp o s vs fun s => runOps E inl kp all ops s k) I = none := by
       intro I
       induction I with
       | nil => exact hN _
       | cons p I ihI =>
        obtain ⟨a, af⟩ := p
        unfold dynC
        cases Nat.beq a f with
        | true => rw [hs]; rfl
        | false => exact ihI
      exact this _
     ·exact hN _
  have hsk : ∀ (n : Nat) (s : S), s.ob = false → (bif dstOk n o.dst then runOps E inl kp all ops (skipO o s) k else none) = none := by
   intro n s hs
   cases dstOk n o.dst with
   | false => rfl
   | true => exact ih hk _ hs
  unfold runOps
  split
  ·exact he s hs
  ·rename_i want _
   split
   ·rfl
   ·split
    ·rename_i b _
     cases b
     ·cases want
      ·exact he _ hs
      ·exact hsk _ _ hs
     ·cases want
      ·exact hsk _ _ hs
      ·exact he _ hs
    ·exact hsk _ _ hs
    ·rfl
end
end Go.Am