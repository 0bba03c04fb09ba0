/- Part Gt of the proof: laws used by the law of this claim. -/
import Derived.Test.YtbojofchpnfnlaaGs
set_option linter.all false
namespace Go.Proofs.Ytbojofchpnfnlaa
open Go Go.Am Go.RowKit Go.Mix Go.Bas
set_option maxRecDepth 100000
theorem inC_idle (p q : Addr) (w : World) (hq : w.cell? q = some (.int .i64 0)) (hz : w.frozen? q = false) :
    CallsD Try.prog 83 #[.pointer (some q), .pointer (some p)] .returning w fun e u' w' => e = .returned (.tuple #[]) ∧ u' = .returning ∧ w' = (w.setCell q (.int .i64 0)).drew := by
  refine callsD_of_wpS Try.func83 rfl fun c₀ cs hu => ?_
  apply wpS_seq
  refine wpS_region_draw fun t => ?_
  rw [show Try.prog.follows .mixedOrders = true by kernel_rfl]
  rcases lin4 (by kernel_rfl) (by kernel_rfl) (by kernel_rfl) (by kernel_rfl) (by kernel_rfl) (by kernel_rfl) t with h | h
  all_goals
    rw [h]
    clear h
    simp [wpOpsS, go_sem, recoverD, hu, Try.ntmps83, Exit.thenS, hq, hz]
    refine (caught_nil _ _).mono ?_
    rintro e w' ⟨rfl, rfl⟩
    simp [go_sem, hq, hz]
    apply wpS_seq
    apply wpS_region
    simp [wpOpsS, go_sem, Exit.thenS, hq, hz]
    refine wpS_cond (t := false) (by simp [Act.eval, Array.replicate]) ?_
    simp only [Bool.false_eq_true, if_false]
    refine wpS_of_wp (wp_skip ?_)
    cases c₀
    simp_all [bodyPostS, results, Try.results83]
theorem inC_pan (p q : Addr) (x : Int) (hx : x ≠ 0) (w : World) (y : Value) (hq : w.cell? q = some (.int .i64 0)) (hz : w.frozen? q = false) (hp : w.cell? p = some y) (hzp : w.frozen? p = false) (hpq : p.block ≠ q.block) :
    CallsD Try.prog 83 #[.pointer (some q), .pointer (some p)] (.panicking [{ v := .iface 29 (.int .i64 x), recovered := false }]) w fun e u' w' => e = .returned (.tuple #[]) ∧ u' = .panicking [{ v := .iface 29 (.int .i64 x), recovered := true }] ∧ w' = ((w.setCell q (.int .i64 x)).setCell p (.slice none 0 0)).drew := by
  refine callsD_of_wpS Try.func83 rfl fun c₀ cs hu => ?_
  apply wpS_seq
  refine wpS_region_draw fun t => ?_
  rw [show Try.prog.follows .mixedOrders = true by kernel_rfl]
  rcases lin4 (by kernel_rfl) (by kernel_rfl) (by kernel_rfl) (by kernel_rfl) (by kernel_rfl) (by kernel_rfl) t with h | h
  all_goals
    rw [h]
    clear h
    simp [wpOpsS, go_sem, recoverD, hu, Try.ntmps83, Exit.thenS, hq, hz]
    refine (caught_ifc _ _ _).mono ?_
    rintro e w' ⟨rfl, rfl⟩
    simp [go_sem, hq, hz]
    apply wpS_seq
    apply wpS_region
    simp [wpOpsS, go_sem, Exit.thenS, hq, hz]
    refine wpS_cond (t := true) (by simp [Act.eval, Array.replicate, hx]) ?_
    simp only [if_true]
    apply wpS_region
    have hp' : (w.setCell q (.int .i64 x)).cell? p = some y := (World.cell?_of_block (w := w) (Below.heap_setCell w q _ p.block hpq)).trans hp
    have hzp' : (w.setCell q (.int .i64 x)).frozen? p = false := by rw [World.frozen?_setCell]; exact hzp
    simp [wpOpsS, go_sem, hq, hz, hp', hzp', bodyPostS, results, Try.results83]
def cIns : List V → Option (V × Bool)
  | [.bytes b, .rows (.barr 16) s, .rows (.agg [.int .i64, .bytes]) t] => some (.tup [.ownv 5 (.bytes (inB b s t)), .int .i64 (inE b s t)], (decide (b.length ≤ 140737488352000 ∧ t.length ≤ 4611686018427387904) && (isB16 s && okS s)))
  | _ => none
theorem inB_no {b : List UInt8} {s t : List V} (h : inE b s t ≠ 0) : inB b s t = [] := if_neg h
theorem dtIns2_con : ∀ vs v, cIns vs = some (v, true) → SpecV Try.prog 33 vs v := by
  intro vs v h; unfold cIns at h; split at h
  · rename_i b s t
    injection h with h; injection h with h hb; subst h
    intro O w cs hO hv
    obtain ⟨a, a2, a3, rfl, ha, ha2, ha3⟩ := hv.three_inv
    show Calls Try.prog 33 #[a, a2, a3] w _
    have hmf : ∀ (fn : Fn) (first cap : Array Value) (w : World), (Instr.makeFunc fn first cap).run Try.prog w = .ok (.func fn first cap) w := fun _ _ _ _ => rfl
    go_enter_defers Try.func33, Try.ntmps33
    go_wp2_with fail
    generalize hW : ((w.alloc (Obj.cells #[Value.slice none 0 0] 24)).alloc (Obj.cells #[Value.int IntKind.i64 0] 29)) = W
    have hbw : Below w.heap.size w W := by rw [← hW]; exact ((Below.refl _ _).alloc (Nat.le_refl _) _).alloc (by simp) _
    have hWs : W.heap.size = w.heap.size + 2 := by rw [← hW]; simp
    have p0 : W.cell? ⟨w.heap.size, 0, none⟩ = some (.slice none 0 0) := by rw [← hW]; simp [go_sem]
    have p1 : W.cell? ⟨w.heap.size + 1, 0, none⟩ = some (.int .i64 0) := by rw [← hW]; simp [go_sem]
    have p2 : W.frozen? ⟨w.heap.size, 0, none⟩ = false := by rw [← hW]; simp [go_sem]
    have p3 : W.frozen? ⟨w.heap.size + 1, 0, none⟩ = false := by rw [← hW]; simp [go_sem]
    clear hW
    have hv2 : VReps no O W [V.bytes b, V.rows (.barr 16) s, V.rows (.agg [.int .i64, .bytes]) t] [a, a2, a3] := hv.ext (Ext.mk (by omega) (fun _ _ e => e) (fun g hg _ => hbw.block g hg) fun g hg => .inl hg)
    have hO2 : ∀ g, O g → g < W.heap.size := fun g hg => by have := hO g hg; omega
    have hbd := hb
    by_cases h0 : inE b s t = 0
    · have hs : SpecP Try.prog 85 [V.bytes b, V.rows (.barr 16) s, V.rows (.agg [.int .i64, .bytes]) t] (.inl (.ownv 5 (.bytes (inB b s t)))) := dtIns_pcon _ _ (by show PTo (.br (decide (b.length ≤ 140737488352000 ∧ t.length ≤ 4611686018427387904) && (isB16 s && okS s)) (.br (inE b s t == 0) _ _) _) _; rw [hbd, h0]; exact .t (.t .val))
      refine (hs O W [a, a2, a3] hO2 hv2).mono ?_
      rintro e w3 ⟨hbl, c, rfl, hout⟩
      obtain ⟨A, n, k, rfl, hown⟩ := out_bytes hout
      have q0 : w3.cell? ⟨w.heap.size, 0, none⟩ = some (.slice none 0 0) := by rw [hbl.cell (by simp; omega)]; exact p0
      have q1 : w3.cell? ⟨w.heap.size + 1, 0, none⟩ = some (.int .i64 0) := by rw [hbl.cell (by simp; omega)]; exact p1
      have q2 : w3.frozen? ⟨w.heap.size, 0, none⟩ = false := by rw [hbl.frozen (by simp; omega)]; exact p2
      have q3 : w3.frozen? ⟨w.heap.size + 1, 0, none⟩ = false := by rw [hbl.frozen (by simp; omega)]; exact p3
      go_wp2
      refine leaves_cons (f := 83) (args := #[.pointer (some ⟨w.heap.size + 1, 0, none⟩), .pointer (some ⟨w.heap.size, 0, none⟩)]) (by simp) (by simp [go_sem]) ?_
      refine (inC_idle ⟨w.heap.size, 0, none⟩ ⟨w.heap.size + 1, 0, none⟩ _ (World.cell?_setCell_same' _ _ _ (by simp [go_sem, q1])) (by simp [go_sem, q3])).mono ?_
      rintro e u' w'' ⟨rfl, rfl, rfl⟩
      simp only [Leaves, settle]
      have ho4 : Go.Bas.Own ((((w3.setCell ⟨w.heap.size, 0, none⟩ (.slice A n k)).setCell ⟨w.heap.size + 1, 0, none⟩ (.int .i64 0)).setCell ⟨w.heap.size + 1, 0, none⟩ (.int .i64 0)).drew) W.heap.size 5 A n k (inB b s t) := (((hown.far (by show w.heap.size < _; omega) _).far (by show w.heap.size + 1 < _; omega) _).far (by show w.heap.size + 1 < _; omega) _).step (Below.refl _ _).drew
      have hb4 : Below w.heap.size w ((((w3.setCell ⟨w.heap.size, 0, none⟩ (.slice A n k)).setCell ⟨w.heap.size + 1, 0, none⟩ (.int .i64 0)).setCell ⟨w.heap.size + 1, 0, none⟩ (.int .i64 0)).drew) := ((((hbw.trans (hbl.mono (by omega))).setCell (by show w.heap.size ≤ w.heap.size; omega) _).setCell (by show w.heap.size ≤ w.heap.size + 1; omega) _).setCell (by show w.heap.size ≤ w.heap.size + 1; omega) _).drew
      have k3 : ((((w3.setCell ⟨w.heap.size, 0, none⟩ (.slice A n k)).setCell ⟨w.heap.size + 1, 0, none⟩ (.int .i64 0)).setCell ⟨w.heap.size + 1, 0, none⟩ (.int .i64 0))).cell? ⟨w.heap.size + 1, 0, none⟩ = some (.int .i64 0) := World.cell?_setCell_same' _ _ _ (by rw [World.cell?_setCell_same' _ _ _ (by simp [go_sem, q1])]; rfl)
      refine ⟨.tuple #[.slice A n k, .int .i64 0], by simp [results, Try.results33, go_sem, q0, q1, k3], hb4, _, rfl, ?_⟩
      rw [h0]
      exact out_rowInt ho4 (by omega)
    · have hs : SpecP Try.prog 85 [V.bytes b, V.rows (.barr 16) s, V.rows (.agg [.int .i64, .bytes]) t] (.inr (pnc (inE b s t))) := dtIns_pcon _ _ (by show PTo (.br (decide (b.length ≤ 140737488352000 ∧ t.length ≤ 4611686018427387904) && (isB16 s && okS s)) (.br (inE b s t == 0) _ _) _) _; rw [hbd, show (inE b s t == 0) = false by simpa using h0]; exact .t (.f .pan))
      refine (hs O W [a, a2, a3] hO2 hv2).mono ?_
      rintro e w3 ⟨hbl, rfl⟩
      have q0 : w3.cell? ⟨w.heap.size, 0, none⟩ = some (.slice none 0 0) := by rw [hbl.cell (by simp; omega)]; exact p0
      have q1 : w3.cell? ⟨w.heap.size + 1, 0, none⟩ = some (.int .i64 0) := by rw [hbl.cell (by simp; omega)]; exact p1
      have q2 : w3.frozen? ⟨w.heap.size, 0, none⟩ = false := by rw [hbl.frozen (by simp; omega)]; exact p2
      have q3 : w3.frozen? ⟨w.heap.size + 1, 0, none⟩ = false := by rw [hbl.frozen (by simp; omega)]; exact p3
      go_wp2
      refine leaves_cons (f := 83) (args := #[.pointer (some ⟨w.heap.size + 1, 0, none⟩), .pointer (some ⟨w.heap.size, 0, none⟩)]) (by simp) (by simp [go_sem]) ?_
      refine (inC_pan ⟨w.heap.size, 0, none⟩ ⟨w.heap.size + 1, 0, none⟩ (inE b s t) h0 _ _ q1 q3 q0 q2 (by simp)).mono ?_
      rintro e u' w'' ⟨rfl, rfl, rfl⟩
      show ∃ v, _ ∧ _
      have hb4 : Below w.heap.size w ((w3.setCell ⟨w.heap.size + 1, 0, none⟩ (.int .i64 (inE b s t))).setCell ⟨w.heap.size, 0, none⟩ (.slice none 0 0)).drew := (((hbw.trans (hbl.mono (by omega))).setCell (by show w.heap.size ≤ w.heap.size + 1; omega) _).setCell (by show w.heap.size ≤ w.heap.size; omega) _).drew
      refine ⟨.tuple #[.slice none 0 0, .int .i64 (inE b s t)], by simp [results, Try.results33, go_sem, q0, q1], hb4, _, rfl, ?_⟩
      rw [inB_no h0]
      exact out_rowInt (Go.Bas.Own.nil _ _ _) (Nat.le_refl _)
  · cases h
end Go.Proofs.Ytbojofchpnfnlaa

namespace Go.Proofs.Ytbojofchpnfnlaa
open Go Go.Am Go.RowKit Go.Mix Go.Bas
set_option maxRecDepth 100000
end Go.Proofs.Ytbojofchpnfnlaa

namespace Go.Proofs.Ytbojofchpnfnlaa
open Go Go.Am Go.RowKit Go.Mix Go.Bas
set_option maxRecDepth 100000
structure H6 where
  (c la ln nx hp : Int)
  (s d : List UInt8)
def H6.v (h : H6) : V := .agg [.int .i64 h.c, .int .i64 h.la, .int .i64 h.ln, .int .i64 h.nx, .int .i64 h.hp, .barr 16 h.s, .barr 16 h.d]
end Go.Proofs.Ytbojofchpnfnlaa

namespace Go.Proofs.Ytbojofchpnfnlaa
open Go Go.Am Go.RowKit Go.Mix Go.Bas
set_option maxRecDepth 100000
end Go.Proofs.Ytbojofchpnfnlaa

namespace Go.Proofs.Ytbojofchpnfnlaa
open Go Go.Am Go.RowKit Go.Mix Go.Bas
set_option maxRecDepth 100000
theorem cutL_self {l : List UInt8} (h : l.length = 16) : cutL l 0 16 = l := by
  unfold cutL
  rw [List.drop_zero, List.take_of_length_le (by omega)]
theorem cutL_drop {α : Type} (l : List α) {i j : Nat} (h : i ≤ j) : cutL l i j ++ l.drop j = l.drop i := by
  unfold cutL
  have e : l.drop j = (l.drop i).drop (j - i) := by rw [List.drop_drop]; congr 1; omega
  rw [e, List.take_append_drop]
theorem hdX_eq {c la ln nx hp : Int} {s d : List UInt8} (h : okX c la ln nx hp) (hs : s.length = 16) (hd : d.length = 16) : hdX c la ln nx hp s d = hd8 c la ln nx hp ++ (s ++ d) := by
  unfold hdX
  rw [if_pos h, cutL_self hs, cutL_self hd]
structure HdF (x : List UInt8) (c la ln nx hp : Int) (s d r : List UInt8) : Prop where
  e : gE x = 0
  c : gC x = c
  la : gLa x = la
  ln : gLn x = ln
  nx : gNx x = nx
  hp : gHp x = hp
  s : gS x = s
  d : gD x = d
  q : x.drop 40 = r
  l : x.length = 40 + r.length
theorem hd_back {c la ln nx hp : Int} {s d : List UInt8} (h : okX c la ln nx hp) (hs : s.length = 16) (hd : d.length = 16) (r : List UInt8) : HdF (hdX c la ln nx hp s d ++ r) c la ln nx hp s d r := by
  have e0 : hdX c la ln nx hp s d ++ r = hd8 c la ln nx hp ++ (s ++ (d ++ r)) := by rw [hdX_eq h hs hd]; simp
  generalize hdX c la ln nx hp s d ++ r = x at e0
  have h8 : (hd8 c la ln nx hp).length = 8 := rfl
  have hl : x.length = 40 + r.length := by rw [e0, List.length_append, List.length_append, List.length_append, hs, hd, h8]; omega
  obtain ⟨h1, h2, h3, h4, h5⟩ := h
  have k0 : gt x 0 = (96 + c / 16) % 256 := by rw [e0]; exact b8_toNat _
  have k1 : gt x 1 = (c % 16 * 16 + la / 65536) % 256 := by rw [e0]; exact b8_toNat _
  have k2 : gt x 2 = (la / 256) % 256 := by rw [e0]; exact b8_toNat _
  have k3 : gt x 3 = la % 256 := by rw [e0]; exact b8_toNat _
  have k4 : gt x 4 = (ln / 256) % 256 := by rw [e0]; exact b8_toNat _
  have k5 : gt x 5 = ln % 256 := by rw [e0]; exact b8_toNat _
  have k6 : gt x 6 = nx % 256 := by rw [e0]; exact b8_toNat _
  have k7 : gt x 7 = hp % 256 := by rw [e0]; exact b8_toNat _
  have hE : gE x = 0 := by
    unfold gE
    rw [if_neg (by omega), if_neg (by rw [k0]; simp only [ne_eq, Decidable.not_not]; omega)]
  have z : ∀ y, gz x y = y := fun y => if_pos hE
  have zb : ∀ y, gzb x y = y := fun y => if_pos hE
  refine ⟨hE, ?_, ?_, ?_, ?_, ?_, ?_, ?_, ?_, hl⟩
  · unfold gC; rw [z]; omega
  · unfold gLa; rw [z]; omega
  · unfold gLn; rw [z]; omega
  · unfold gNx; rw [z]; omega
  · unfold gHp; rw [z]; omega
  · unfold gS
    rw [zb, e0]
    unfold cutL
    rw [← h8, List.drop_left, show 24 - (hd8 c la ln nx hp).length = s.length by rw [h8, hs], List.take_left]
  · unfold gD
    rw [zb, e0]
    unfold cutL
    rw [← List.append_assoc, show 24 = (hd8 c la ln nx hp ++ s).length by rw [List.length_append, h8, hs], List.drop_left, show 40 - (hd8 c la ln nx hp ++ s).length = d.length by rw [List.length_append, h8, hs, hd], List.take_left]
  · rw [e0, ← List.append_assoc, ← List.append_assoc, show 40 = (hd8 c la ln nx hp ++ s ++ d).length by rw [List.length_append, List.length_append, h8, hs, hd], List.drop_left]
theorem b8_is {n : Int} {x : UInt8} (h : n % 256 = (x.toNat : Int)) : b8 n = x := by
  unfold b8
  rw [h, Int.toNat_natCast]
  exact UInt8.ofNat_toNat
theorem eight {b : List UInt8} (h : 8 ≤ b.length) : ∃ x0 x1 x2 x3 x4 x5 x6 x7 r, b = x0 :: x1 :: x2 :: x3 :: x4 :: x5 :: x6 :: x7 :: r := by
  match b, h with
  | x0 :: x1 :: x2 :: x3 :: x4 :: x5 :: x6 :: x7 :: r, _ => exact ⟨_, _, _, _, _, _, _, _, _, rfl⟩
theorem hd_self {b : List UInt8} (h : gE b = 0) : hdX (gC b) (gLa b) (gLn b) (gNx b) (gHp b) (gS b) (gD b) ++ b.drop 40 = b := by
  have h40 := gE_40 h
  rw [hdX_eq (g_bds b) (gS_16 b) (gD_16 b)]
  have z : ∀ y, gz b y = y := fun y => if_pos h
  have zb : ∀ y, gzb b y = y := fun y => if_pos h
  have h6 : gt b 0 / 16 = 6 := by
    unfold gE at h
    rw [if_neg (by omega)] at h
    split at h
    · cases h
    · rename_i h1; simpa using h1
  simp only [gC, gLa, gLn, gNx, gHp, gS, gD, z, zb]
  rw [List.append_assoc, List.append_assoc, cutL_drop b (by omega), cutL_drop b (by omega)]
  obtain ⟨x0, x1, x2, x3, x4, x5, x6, x7, r, rfl⟩ := eight (by omega : 8 ≤ b.length)
  generalize hB : x0 :: x1 :: x2 :: x3 :: x4 :: x5 :: x6 :: x7 :: r = b at *
  have k0 : gt b 0 = (x0.toNat : Int) := by rw [← hB]; rfl
  have k1 : gt b 1 = (x1.toNat : Int) := by rw [← hB]; rfl
  have k2 : gt b 2 = (x2.toNat : Int) := by rw [← hB]; rfl
  have k3 : gt b 3 = (x3.toNat : Int) := by rw [← hB]; rfl
  have k4 : gt b 4 = (x4.toNat : Int) := by rw [← hB]; rfl
  have k5 : gt b 5 = (x5.toNat : Int) := by rw [← hB]; rfl
  have k6 : gt b 6 = (x6.toNat : Int) := by rw [← hB]; rfl
  have k7 : gt b 7 = (x7.toNat : Int) := by rw [← hB]; rfl
  have t0 := x0.toNat_lt
  have t1 := x1.toNat_lt
  have t2 := x2.toNat_lt
  have t3 := x3.toNat_lt
  have t4 := x4.toNat_lt
  have t5 := x5.toNat_lt
  have t6 := x6.toNat_lt
  have t7 := x7.toNat_lt
  unfold hd8
  rw [b8_is (x := x0) (by omega), b8_is (x := x1) (by omega), b8_is (x := x2) (by omega), b8_is (x := x3) (by omega), b8_is (x := x4) (by omega), b8_is (x := x5) (by omega), b8_is (x := x6) (by omega), b8_is (x := x7) (by omega)]
  rw [← hB]
  rfl
structure InF (b : List UInt8) (s t : List V) : Prop where
  h0 : hdE b = 0
  n43 : gNx b ≠ 43
  n0 : gNx b ≠ 0
  s1 : 1 ≤ s.length
  s9 : s.length ≤ 9
  c0 : inC0 b s t = 0
  l : b.length + (inX b s t).length ≤ 1500
theorem inF {b : List UInt8} {s t : List V} (h : inE b s t = 0) : InF b s t := by
  unfold inE at h
  split at h; · rename_i h1; exact absurd h h1
  split at h; · cases h
  split at h; · cases h
  split at h; · cases h
  split at h; · rename_i h1; exact absurd h h1
  split at h; · cases h
  rename_i a1 a2 a3 a4 a5 a6
  exact ⟨by simpa using a1, fun e => a2 (.inl e), fun e => a2 (.inr e), by omega, by omega, by simpa using a5, by omega⟩
/-- a packet by way of others: what it is -/
structure BkF (b : List UInt8) (s t : List V) (x : List UInt8) : Prop where
  hd : HdF x (gC b) (gLa b) ((x.length : Int) - 40) 43 (gHp b) (gS b) (toA (s.getD 0 .undef)) (inX b s t ++ b.drop 40)
  r0 : rtE x = 0
  n : sN (x.drop 40) = gNx b
  left : sL (x.drop 40) = s.length
  sg : sS (x.drop 40) = viaR b s
  z : sZ (x.drop 40) = (inX b s t).length
  l : x.length = b.length + (inX b s t).length
theorem ok_get {s : List V} (h : okS s = true) {i : Nat} (hi : i < s.length) : (toA (s.getD i .undef)).length = 16 := by
  have hm : s.getD i .undef ∈ s := by
    rw [List.getD_eq_getElem?_getD, List.getElem?_eq_getElem hi]
    exact List.getElem_mem hi
  exact Nat.eq_of_beq_eq_true (List.all_eq_true.1 h _ hm)
theorem bkF {b : List UInt8} {s t : List V} (h : inE b s t = 0) (hok : okS s = true) (hv : ∀ v ∈ s, v = .barr 16 (toA v)) (ht : ∀ v ∈ t, ∃ (k : Int) (d : List UInt8), v = .agg [.int .i64 k, .bytes d]) : BkF b s t (inB b s t) := by
  have f := inF h
  have hb := g_bds b
  have h40 := gE_40 (hdE_zero f.h0).1
  have hln := (hdE_zero f.h0).2
  have hfl := f.l
  have hl0 : (b.drop 40).length = b.length - 40 := List.length_drop ..
  have he : inB b s t = hdX (gC b) (gLa b) ((inX b s t).length + ((b.length : Int) - 40)) 43 (gHp b) (gS b) (toA (s.getD 0 .undef)) ++ (inX b s t ++ b.drop 40) := if_pos h
  have hd := hd_back (c := gC b) (la := gLa b) (ln := (inX b s t).length + ((b.length : Int) - 40)) (nx := 43) (hp := gHp b) (s := gS b) (d := toA (s.getD 0 .undef)) ⟨by omega, by omega, by omega, by omega, by omega⟩ (gS_16 b) (ok_get hok (by have := f.s1; omega)) (inX b s t ++ b.drop 40)
  rw [← he] at hd
  have hl : (inB b s t).length = b.length + (inX b s t).length := by rw [hd.l, List.length_append, hl0]; omega
  have hln2 : ((inX b s t).length : Int) + ((b.length : Int) - 40) = ((inB b s t).length : Int) - 40 := by omega
  rw [hln2] at hd
  have hvr : ∀ v ∈ viaR b s, v = .barr 16 (toA v) := by
    intro v hm
    unfold viaR at hm
    rw [List.mem_reverse, List.mem_append] at hm
    rcases hm with hm | hm
    · exact hv v hm
    · simp only [List.mem_singleton] at hm
      subst hm; rfl
  obtain ⟨k0, k1, k2, k3, k4, k5, k6, k7⟩ := srh_back ⟨gNx b, s.length, 0, 0, viaR b s, t⟩ f.c0 (okS_app (x := gD b) hok (gD_16 b)) hvr ht (b.drop 40)
  have eX : srP ⟨gNx b, s.length, 0, 0, viaR b s, t⟩ = inX b s t := rfl
  rw [eX] at k0 k1 k2 k3 k4 k5 k6 k7
  simp only at k1 k2 k3 k4 k5 k6
  have h0 : hdE (inB b s t) = 0 := by unfold hdE; rw [if_pos hd.e, if_pos hd.ln]
  have r0 : rtE (inB b s t) = 0 := by unfold rtE; rw [if_pos h0, if_pos hd.nx, hd.q, k0]
  refine ⟨hd, r0, ?_, ?_, ?_, ?_, hl⟩
  · rw [hd.q]; unfold sN; rw [k0, k1]; rfl
  · rw [hd.q]; unfold sL; rw [k0, k2]; rfl
  · rw [hd.q]; unfold sS; rw [k0, k5]; rfl
  · rw [hd.q]; unfold sZ; rw [k0, k7]; rfl
theorem viaR_0 (b : List UInt8) (s : List V) : (viaR b s).getD 0 .undef = .barr 16 (gD b) := by
  unfold viaR
  rw [List.reverse_append]
  rfl
theorem rm_back {b : List UInt8} {s t : List V} (h : inE b s t = 0) (f : BkF b s t (inB b s t)) : rmB (inB b s t) = b := by
  have g := inF h
  have hE := (hdE_zero g.h0).1
  have h40 := gE_40 hE
  have hln := (hdE_zero g.h0).2
  unfold rmB
  rw [if_pos f.r0, f.hd.c, f.hd.la, f.hd.hp, f.hd.s, f.n, f.sg, f.z, viaR_0]
  show hdX (gC b) (gLa b) _ (gNx b) (gHp b) (gS b) (gD b) ++ _ = b
  have e1 : ((inB b s t).length : Int) - 40 - ((inX b s t).length : Int) = gLn b := by rw [f.l]; omega
  have e2 : (inB b s t).drop (40 + ((inX b s t).length : Int)).toNat = b.drop 40 := by
    rw [show (40 + ((inX b s t).length : Int)).toNat = 40 + (inX b s t).length by omega, ← List.drop_drop, f.hd.q, List.drop_left]
  rw [e1, e2]
  exact hd_self hE
end Go.Proofs.Ytbojofchpnfnlaa

namespace Go.Proofs.Ytbojofchpnfnlaa
open Go Go.Am Go.RowKit Go.Mix Go.Bas
set_option maxRecDepth 100000
end Go.Proofs.Ytbojofchpnfnlaa

namespace Go.Proofs.Ytbojofchpnfnlaa
open Go Go.Am Go.RowKit Go.Mix Go.Bas
set_option maxRecDepth 100000
theorem isB16_of {M : Nat} {s : List V} (h : ∀ y ∈ s, inR M (.barr 16) y = true) : isB16 s = true := by
  refine List.all_eq_true.2 fun v hv => ?_
  obtain ⟨l, rfl, _⟩ := inR_barr (h v hv)
  rfl
end Go.Proofs.Ytbojofchpnfnlaa
