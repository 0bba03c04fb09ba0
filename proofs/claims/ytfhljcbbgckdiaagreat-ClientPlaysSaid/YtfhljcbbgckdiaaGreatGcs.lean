/- Part Gcs of the proof: laws used by the law of this claim. -/
import Derived.Test.YtfhljcbbgckdiaaGreatGcn
set_option linter.all false
namespace Go.Proofs.YtfhljcbbgckdiaaGreat
open Go Go.Am Go.RowKit Go.Bas
set_option maxRecDepth 100000
theorem takB_ok {c : Cal} (h : cGd c) (b16 b4 b2 b1 : Bool) (sq ak : Int) : cGd (takB c b16 b4 b2 b1 sq ak).1 ∧ (takB c b16 b4 b2 b1 sq ak).2.length ≤ 1 := by
 obtain ⟨⟨h1, h2, h3⟩, ⟨g1, g2⟩, g3, g4⟩ := h
 have k1 : cGd (tkD1 c ak) := by
  unfold tkD1
  repeat' split
  ·exact ⟨⟨h1, h2, h3⟩, ⟨g1, g2⟩, g3, g4⟩
  ·exact ⟨⟨h1, h3, h3⟩, ⟨g1, g2⟩, g3, g4⟩
  ·exact ⟨⟨h1, h2, h3⟩, ⟨g1, g2⟩, g3, g4⟩
 have k2 : cGd (tkD2 (tkD1 c ak) b1 sq) := by
  unfold tkD2
  repeat' split
  ·exact ⟨⟨u32w _, k1.1.2⟩, ⟨by show (1 : Int) ≤ 4; omega, by show (4 : Int) ≤ 5; omega⟩, k1.2.2⟩
  ·exact k1
  ·exact k1
 have k3 : cGd (tkD3 (tkD2 (tkD1 c ak) b1 sq) b1 sq).1 ∧ (tkD3 (tkD2 (tkD1 c ak) b1 sq) b1 sq).2.length ≤ 1 := by
  unfold tkD3
  repeat' split
  ·exact ⟨k2, by simp [akF]⟩
  ·exact ⟨k2, by simp⟩
  ·exact ⟨k2, by simp⟩
 have hc : cGd c := ⟨⟨h1, h2, h3⟩, ⟨g1, g2⟩, g3, g4⟩
 unfold takB
 repeat' split
 all_goals
  first
  | exact ⟨hc, Nat.zero_le 1⟩
  | exact ⟨hc, Nat.le_refl 1⟩
  | exact k3
  | exact ⟨⟨⟨h1, h2, h3⟩, ⟨by show (1 : Int) ≤ 5; omega, by show (5 : Int) ≤ 5; omega⟩, g3, g4⟩, Nat.zero_le 1⟩
  | exact ⟨⟨⟨u32w _, h3, h3⟩, ⟨by show (1 : Int) ≤ 2; omega, by show (2 : Int) ≤ 5; omega⟩, g3, g4⟩, Nat.le_refl 1⟩
theorem tk1_ok {c : Cal} (h : cGd c) {now : Int} {c' : Cal} {o : List V} (ht : tk1 c now = some (c', o)) : cGd c' ∧ o.length ≤ 1 := by
 obtain ⟨hok, ⟨g1, g2⟩, ⟨g3, g4⟩, g5, g6⟩ := h
 unfold tk1 at ht
 split at ht
 ·cases ht
 split at ht
 ·cases ht
 split at ht
 ·cases ht
 split at ht
 ·injection ht with ht; injection ht with e1 e2; subst e1; subst e2
  exact ⟨⟨hok, ⟨by show (1 : Int) ≤ 5; omega, by show (5 : Int) ≤ 5; omega⟩, ⟨g3, g4⟩, g5, g6⟩, by simp⟩
 ·rename_i hn3
  injection ht with ht; injection ht with e1 e2; subst e1; subst e2
  have hw : IntKind.i64.wrap (c.ag + 1) = c.ag + 1 := w64 (by omega) (by omega)
  exact ⟨⟨hok, ⟨g1, g2⟩, ⟨by show 0 ≤ IntKind.i64.wrap (c.ag + 1); omega, by show IntKind.i64.wrap (c.ag + 1) ≤ 3; omega⟩, g5, g6⟩, lsF_len _⟩
theorem tkN_ok {now : Int} : ∀ (n : Nat) {l : List V} {i : Nat} {out : List V}, lOk l → i + n = l.length → out.length ≤ i → lOk (tkN now n l i out).1 ∧ (tkN now n l i out).2.length ≤ i + n ∧ (tkN now n l i out).1.length = l.length
 | 0, l, i, out, h, _, ho => ⟨h, ho, rfl⟩
 | n + 1, l, i, out, h, hn, ho => by
  rw [tkN]
  cases ht : tk1 (atC l i) now with
  | none =>
   dsimp only
   have := tkN_ok (now := now) n (l := l) (i := i + 1) (out := out) h (by omega) (by omega)
   exact ⟨this.1, by omega, this.2.2⟩
  | some co =>
   obtain ⟨c, o⟩ := co
   dsimp only
   obtain ⟨k1, k2⟩ := tk1_ok (h.at (i := i) (by omega)).2 ht
   have := tkN_ok (now := now) n (l := upC l i c) (i := i + 1) (out := out ++ o) (h.up k1 i) (by rw [upC_len]; omega) (by rw [List.length_append]; omega)
   rw [upC_len] at this
   exact ⟨this.1, by omega, this.2.2⟩
theorem cnnC_gd {a : List UInt8} (ha : a.length = 16) {d : List UInt8} (hd : d.length = 16) (now n p : Int) : cGd (cnnC a now n d p) :=
 ⟨cnnC_ok a now n d p, ⟨by show (1 : Int) ≤ 1; omega, by show (1 : Int) ≤ 5; omega⟩, ⟨by show (0 : Int) ≤ 0; omega, by show (0 : Int) ≤ 3; omega⟩, ha, hd⟩
theorem opF_ok {a : List UInt8} (ha : a.length = 16) {d : List UInt8} (hd : d.length = 16) {l : List V} (h : lOk l) (now k n m : Int) (b : List UInt8) : lOk (opF a now l k d n m b).l ∧ (opF a now l k d n m b).out.length ≤ 8 := by
 have hM := h.1
 have ht : lOk (tckF now l).l ∧ (tckF now l).out.length ≤ 8 := by
  have := tkN_ok (now := IntKind.i64.wrap (now + 1)) l.length (l := l) (i := 0) (out := []) h (by omega) (by simp)
  exact ⟨this.1, by have := this.2.1; show (tikF l (IntKind.i64.wrap (now + 1))).2.length ≤ 8; unfold tikF; omega⟩
 unfold opF
 split
 ·unfold cnnF
  repeat' split
  ·exact ⟨h, by simp⟩
  ·exact ⟨h, by simp⟩
  ·exact ⟨h, by simp⟩
  ·rename_i hl
   exact ⟨h.add (cnnC_gd ha hd _ _ _) (by omega), by have := lsF_len (cnnC a now l.length d n); show (lsF _).length ≤ 8; omega⟩
 split
 ·unfold sndF
  repeat' split
  ·exact ⟨h, by simp⟩
  ·exact ⟨h, by simp⟩
  ·exact ⟨h, by simp⟩
  ·rename_i c1 _ _
   obtain ⟨h0, h1, _⟩ := mayF_0 (by simpa using c1)
   obtain ⟨_, hok, g1, ⟨_, _⟩, g4⟩ := h.at (i := n.toNat) (by omega)
   exact ⟨h.up (c := sndC (atC l n.toNat) m now) ⟨sndC_ok hok m now, g1, ⟨by show (0 : Int) ≤ 0; omega, by show (0 : Int) ≤ 3; omega⟩, g4⟩ _, by have := lsF_len (sndC (atC l n.toNat) m now); show (lsF _).length ≤ 8; omega⟩
 split
 ·unfold clsF
  split
  ·exact ⟨h, by simp⟩
  ·rename_i c1
   obtain ⟨h0, h1, _⟩ := mayF_0 (by simpa using c1)
   obtain ⟨_, hok, g1, ⟨_, _⟩, g4⟩ := h.at (i := n.toNat) (by omega)
   exact ⟨h.up (c := clsC (atC l n.toNat) now) ⟨clsC_ok hok now, ⟨by show (1 : Int) ≤ 3; omega, by show (3 : Int) ≤ 5; omega⟩, ⟨by show (0 : Int) ≤ 0; omega, by show (0 : Int) ≤ 3; omega⟩, g4⟩ _, by have := lsF_len (clsC (atC l n.toNat) now); show (lsF _).length ≤ 8; omega⟩
 split
 ·exact ht
 split
 ·exact ht
 split
 ·refine ⟨h, ?_⟩
  show (rsnF l n).length ≤ 8
  unfold rsnF
  repeat' split
  ·simp
  ·simp
  ·have := lsF_len (atC l n.toNat); omega
 ·unfold hanR hanB
  repeat' split
  ·exact ⟨h, by simp⟩
  ·exact ⟨h, by simp⟩
  ·exact ⟨h, by simp⟩
  ·unfold hanF
   split
   ·rename_i hi
    obtain ⟨k1, k2⟩ := takB_ok (h.at hi).2 (bitF (pqX b).t.fl 16) (bitF (pqX b).t.fl 4) (bitF (pqX b).t.fl 2) (bitF (pqX b).t.fl 1) (pqX b).t.sq (pqX b).t.ak
    exact ⟨h.up k1 _, by show (takB _ _ _ _ _ _ _).2.length ≤ 8; omega⟩
   ·exact ⟨h, by simp⟩
structure PcI where
 x : List V
 i : Int
def pcS (y : PcI) : S := ⟨[(0, .rows .bytes y.x), (1, .rows .bytes y.x), (5, .int .i64 y.i)], [], 0, true, 28⟩
def pcX : S := ⟨[], [], 0, true, 28⟩
def pcGet (s : S) : PcI := ⟨toR (lkD s 0), toI (lkD s 5)⟩
def pcI (y : PcI) : Prop := 0 ≤ y.i ∧ y.i ≤ y.x.length ∧ y.x.length ≤ 1000
noncomputable def pcG : S → Option (Bool × Tr) := gX pcGet pcS pcI (fun _ => .leaf (.exit 0) pcX)
noncomputable def af_clPacks : AF := afOf Tryz.prog Tryz.f14 [.sum [0, 1, 5] [] pcG]
noncomputable def GEclv : List (Nat × Con) := []
theorem GEclv_ok : GOk Tryz.prog GEclv := .nil
noncomputable def IEclv : List (Nat × AF) := []
theorem IEclv_ok : IOk Tryz.prog IEclv := .nil
noncomputable def CEclv : List (Nat × (List Nat × (S → Option (Bool × Tr)))) := []
theorem CEclv_ok : COk Tryz.prog CEclv := .nil
noncomputable def XEclv : List (Nat × (List Sh × (List V → PT))) := []
theorem XEclv_ok : XOk Tryz.prog XEclv := .nil
noncomputable def Eclv : Env := ⟨Tryz.prog, GEclv, IEclv, CEclv, XEclv, false⟩
theorem Eclv_ok : EnvOk Eclv := ⟨by kernel_rfl, GEclv_ok, IEclv_ok, CEclv_ok, XEclv_ok⟩
noncomputable def pcC : AC := (af_clPacks.ac.sums.headD (.skip, [], [], fun _ => none)).1
theorem pc_b (x : List V) (i : Int) : aev Eclv (inlN Eclv 6) pcC (bodyF (Am.ways [0, 1, 5] [] [4]) []) (pcS ⟨x, i⟩) =
 bif decide (i < (x.length : Int)) then bif andT (andT true (Am.inB i x.length)) (Am.inB i x.length) && true then
 bif !(toL (x.getD i.toNat .undef) == toL (x.getD i.toNat .undef)) then some (.ret, ⟨[(4, .bool false)], [], 0, true, 28⟩) else some (.normal, pcS ⟨x, IntKind.i64.wrap (i + 1)⟩)
 else none else some (.exit 0, pcX) := by kernel_rfl
theorem pc_loop : LoopOk Tryz.prog pcC.erase [] pcG := by
 refine loopX_ok Eclv_ok (d := 6) (AC.flat_ok (by kernel_rfl)) (Am.ways [0, 1, 5] [] [4]) [] pcGet _ _ pcI (fun y => (y.x.length - y.i).toNat) (fun _ => rfl) ?_
 rintro ⟨x, i⟩ ⟨h0, h1, hM⟩
 rw [pc_b]
 simp only at h0 h1 hM ⊢
 obtain ⟨k, rfl⟩ := Int.eq_ofNat_of_zero_le h0
 simp only [Int.toNat_natCast, beq_self_eq_true]
 by_cases hi : k < x.length
 ·refine .inl ⟨⟨x, k + 1⟩, ?_, ⟨by dsimp only; omega, by dsimp only; omega, hM⟩, by dsimp only; omega, leaf_eq rfl⟩
  simp (disch := omega) only [tre]
 ·refine .inr ⟨.exit 0, pcX, ?_, nofun, .leaf⟩
  simp (disch := omega) only [tre]
theorem af_clPacks_ok : AllOk Tryz.prog 14 af_clPacks := .sums Tryz.func14 (by kernel_rfl) (by kernel_rfl) (by kernel_rfl) (by kernel_rfl) (sums_one (c := pcC) (ts := [0, 1, 5]) (by kernel_rfl) (by kernel_rfl) pc_loop)
theorem clPacks_t (x : List V) : callV Eclv af_clPacks [.rows .bytes x, .rows .bytes x] = bif (x.length : Int) != (x.length : Int) then some (.bool false) else bif okG (pcS ⟨x, 0⟩ = pcS ⟨x, 0⟩ ∧ pcI ⟨x, 0⟩) then some (.bool true) else none := by kernel_rfl
noncomputable def cClPacks : List V → Option (V × Bool)
 | [.rows (.bytes) x, .rows (.bytes) y] => some (.bool true, okG (x = y ∧ x.length ≤ 1000))
 | _ => none
theorem clPacks_con : ∀ vs v, cClPacks vs = some (v, true) → SpecV Tryz.prog 14 vs v := by
 intro vs v h; unfold cClPacks at h; split at h
 ·rename_i x y
  injection h with h; injection h with h hb; subst h
  exact callV_ok Eclv_ok af_clPacks_ok ((by obtain ⟨rfl, h⟩ := okG_p hb; rw [clPacks_t, bne_self_eq_false, okG_t ⟨rfl, Int.le_refl 0, by show (0 : Int) ≤ (x.length : Int); omega, h⟩]; rfl))
 ·cases h
end Go.Proofs.YtfhljcbbgckdiaaGreat