/- Part Gt of the proof: laws used by the law of this claim. -/
import Derived.Test.YtbojofchpnfnlaaGs
set_option linter.all false
namespace Go.Proofs.Ytbojofchpnfnlaa
open Go Go.Am Go.RowKit Go.Mix Go.Bas
set_option maxRecDepth 100000
theorem inC_idle (p q : Addr) (w : World) (hq : w.cell? q = some (.int .i64 0)) (hz : w.frozen? q = false) :
    CallsD Try.prog 83 #[.pointer (some q), .pointer (some p)] .returning w fun e u' w' => e = .returned (.tuple #[]) ∧ u' = .returning ∧ w' = (w.setCell q (.int .i64 0)).drew := by
  refine callsD_of_wpS Try.func83 rfl fun c₀ cs hu => ?_
  apply wpS_seq
  refine wpS_region_draw fun t => ?_
  rw [show Try.prog.follows .mixedOrders = true by kernel_rfl]
  rcases lin4 (by kernel_rfl) (by kernel_rfl) (by kernel_rfl) (by kernel_rfl) (by kernel_rfl) (by kernel_rfl) t with h | h
  all_goals
    rw [h]
    clear h
    simp [wpOpsS, go_sem, recoverD, hu, Try.ntmps83, Exit.thenS, hq, hz]
    refine (caught_nil _ _).mono ?_
    rintro e w' ⟨rfl, rfl⟩
    simp [go_sem, hq, hz]
    apply wpS_seq
    apply wpS_region
    simp [wpOpsS, go_sem, Exit.thenS, hq, hz]
    refine wpS_cond (t := false) (by simp [Act.eval, Array.replicate]) ?_
    simp only [Bool.false_eq_true, if_false]
    refine wpS_of_wp (wp_skip ?_)
    cases c₀
    simp_all [bodyPostS, results, Try.results83]
theorem inC_pan (p q : Addr) (x : Int) (hx : x ≠ 0) (w : World) (y : Value) (hq : w.cell? q = some (.int .i64 0)) (hz : w.frozen? q = false) (hp : w.cell? p = some y) (hzp : w.frozen? p = false) (hpq : p.block ≠ q.block) :
    CallsD Try.prog 83 #[.pointer (some q), .pointer (some p)] (.panicking [{ v := .iface 29 (.int .i64 x), recovered := false }]) w fun e u' w' => e = .returned (.tuple #[]) ∧ u' = .panicking [{ v := .iface 29 (.int .i64 x), recovered := true }] ∧ w' = ((w.setCell q (.int .i64 x)).setCell p (.slice none 0 0)).drew := by
  refine callsD_of_wpS Try.func83 rfl fun c₀ cs hu => ?_
  apply wpS_seq
  refine wpS_region_draw fun t => ?_
  rw [show Try.prog.follows .mixedOrders = true by kernel_rfl]
  rcases lin4 (by kernel_rfl) (by kernel_rfl) (by kernel_rfl) (by kernel_rfl) (by kernel_rfl) (by kernel_rfl) t with h | h
  all_goals
    rw [h]
    clear h
    simp [wpOpsS, go_sem, recoverD, hu, Try.ntmps83, Exit.thenS, hq, hz]
    refine (caught_ifc _ _ _).mono ?_
    rintro e w' ⟨rfl, rfl⟩
    simp [go_sem, hq, hz]
    apply wpS_seq
    apply wpS_region
    simp [wpOpsS, go_sem, Exit.thenS, hq, hz]
    refine wpS_cond (t := true) (by simp [Act.eval, Array.replicate, hx]) ?_
    simp only [if_true]
    apply wpS_region
    have hp' : (w.setCell q (.int .i64 x)).cell? p = some y := (World.cell?_of_block (w := w) (Below.heap_setCell w q _ p.block hpq)).trans hp
    have hzp' : (w.setCell q (.int .i64 x)).frozen? p = false := by rw [World.frozen?_setCell]; exact hzp
    simp [wpOpsS, go_sem, hq, hz, hp', hzp', bodyPostS, results, Try.results83]
def cIns : List V → Option (V × Bool)
  | [.bytes b, .rows (.barr 16) s, .rows (.agg [.int .i64, .bytes]) t] => some (.tup [.ownv 5 (.bytes (inB b s t)), .int .i64 (inE b s t)], (decide (b.length ≤ 140737488352000 ∧ t.length ≤ 4611686018427387904) && (isB16 s && okS s)))
  | _ => none
theorem inB_no {b : List UInt8} {s t : List V} (h : inE b s t ≠ 0) : inB b s t = [] := if_neg h
theorem dtIns2_con : ∀ vs v, cIns vs = some (v, true) → SpecV Try.prog 33 vs v := by
  intro vs v h; unfold cIns at h; split at h
  · rename_i b s t
    injection h with h; injection h with h hb; subst h
    intro O w cs hO hv
    obtain ⟨a, a2, a3, rfl, ha, ha2, ha3⟩ := hv.three_inv
    show Calls Try.prog 33 #[a, a2, a3] w _
    have hmf : ∀ (fn : Fn) (first cap : Array Value) (w : World), (Instr.makeFunc fn first cap).run Try.prog w = .ok (.func fn first cap) w := fun _ _ _ _ => rfl
    go_enter_defers Try.func33, Try.ntmps33
    go_wp2_with fail
    generalize hW : ((w.alloc (Obj.cells #[Value.slice none 0 0] 24)).alloc (Obj.cells #[Value.int IntKind.i64 0] 29)) = W
    have hbw : Below w.heap.size w W := by rw [← hW]; exact ((Below.refl _ _).alloc (Nat.le_refl _) _).alloc (by simp) _
    have hWs : W.heap.size = w.heap.size + 2 := by rw [← hW]; simp
    have p0 : W.cell? ⟨w.heap.size, 0, none⟩ = some (.slice none 0 0) := by rw [← hW]; simp [go_sem]
    have p1 : W.cell? ⟨w.heap.size + 1, 0, none⟩ = some (.int .i64 0) := by rw [← hW]; simp [go_sem]
    have p2 : W.frozen? ⟨w.heap.size, 0, none⟩ = false := by rw [← hW]; simp [go_sem]
    have p3 : W.frozen? ⟨w.heap.size + 1, 0, none⟩ = false := by rw [← hW]; simp [go_sem]
    clear hW
    have hv2 : VReps no O W [V.bytes b, V.rows (.barr 16) s, V.rows (.agg [.int .i64, .bytes]) t] [a, a2, a3] := hv.ext (Ext.mk (by omega) (fun _ _ e => e) (fun g hg _ => hbw.block g hg) fun g hg => .inl hg)
    have hO2 : ∀ g, O g → g < W.heap.size := fun g hg => by have := hO g hg; omega
    have hbd := hb
    by_cases h0 : inE b s t = 0
    · have hs : SpecP Try.prog 85 [V.bytes b, V.rows (.barr 16) s, V.rows (.agg [.int .i64, .bytes]) t] (.inl (.ownv 5 (.bytes (inB b s t)))) := dtIns_pcon _ _ (by show PTo (.br (decide (b.length ≤ 140737488352000 ∧ t.length ≤ 4611686018427387904) && (isB16 s && okS s)) (.br (inE b s t == 0) _ _) _) _; rw [hbd, h0]; exact .t (.t .val))
      refine (hs O W [a, a2, a3] hO2 hv2).mono ?_
      rintro e w3 ⟨hbl, c, rfl, hout⟩
      obtain ⟨A, n, k, rfl, hown⟩ := out_bytes hout
      have q0 : w3.cell? ⟨w.heap.size, 0, none⟩ = some (.slice none 0 0) := by rw [hbl.cell (by simp; omega)]; exact p0
      have q1 : w3.cell? ⟨w.heap.size + 1, 0, none⟩ = some (.int .i64 0) := by rw [hbl.cell (by simp; omega)]; exact p1
      have q2 : w3.frozen? ⟨w.heap.size, 0, none⟩ = false := by rw [hbl.frozen (by simp; omega)]; exact p2
      have q3 : w3.frozen? ⟨w.heap.size + 1, 0, none⟩ = false := by rw [hbl.frozen (by simp; omega)]; exact p3
      go_wp2
      refine leaves_cons (f := 83) (args := #[.pointer (some ⟨w.heap.size + 1, 0, none⟩), .pointer (some ⟨w.heap.size, 0, none⟩)]) (by simp) (by simp [go_sem]) ?_
      refine (inC_idle ⟨w.heap.size, 0, none⟩ ⟨w.heap.size + 1, 0, none⟩ _ (World.cell?_setCell_same' _ _ _ (by simp [go_sem, q1])) (by simp [go_sem, q3])).mono ?_
      rintro e u' w'' ⟨rfl, rfl, rfl⟩
      simp only [Leaves, settle]
      have ho4 : Go.Bas.Own ((((w3.setCell ⟨w.heap.size, 0, none⟩ (.slice A n k)).setCell ⟨w.heap.size + 1, 0, none⟩ (.int .i64 0)).setCell ⟨w.heap.size + 1, 0, none⟩ (.int .i64 0)).drew) W.heap.size 5 A n k (inB b s t) := (((hown.far (by show w.heap.size < _; omega) _).far (by show w.heap.size + 1 < _; omega) _).far (by show w.heap.size + 1 < _; omega) _).step (Below.refl _ _).drew
      have hb4 : Below w.heap.size w ((((w3.setCell ⟨w.heap.size, 0, none⟩ (.slice A n k)).setCell ⟨w.heap.size + 1, 0, none⟩ (.int .i64 0)).setCell ⟨w.heap.size + 1, 0, none⟩ (.int .i64 0)).drew) := ((((hbw.trans (hbl.mono (by omega))).setCell (by show w.heap.size ≤ w.heap.size; omega) _).setCell (by show w.heap.size ≤ w.heap.size + 1; omega) _).setCell (by show w.heap.size ≤ w.heap.size + 1; omega) _).drew
      have k3 : ((((w3.setCell ⟨w.heap.size, 0, none⟩ (.slice A n k)).setCell ⟨w.heap.size + 1, 0, none⟩ (.int .i64 0)).setCell ⟨w.heap.size + 1, 0, none⟩ (.int .i64 0))).cell? ⟨w.heap.size + 1, 0, none⟩ = some (.int .i64 0) := World.cell?_setCell_same' _ _ _ (by rw [World.cell?_setCell_same' _ _ _ (by simp [go_sem, q1])]; rfl)
      refine ⟨.tuple #[.slice A n k, .int .i64 0], by simp [results, Try.results33, go_sem, q0, q1, k3], hb4, _, rfl, ?_⟩
      rw [h0]
      exact out_rowInt ho4 (by omega)
    · have hs : SpecP Try.prog 85 [V.bytes b, V.rows (.barr 16) s, V.rows (.agg [.int .i64, .bytes]) t] (.inr (pnc (inE b s t))) := dtIns_pcon _ _ (by show PTo (.br (decide (b.length ≤ 140737488352000 ∧ t.length ≤ 4611686018427387904) && (isB16 s && okS s)) (.br (inE b s t == 0) _ _) _) _; rw [hbd, show (inE b s t == 0) = false by simpa using h0]; exact .t (.f .pan))
      refine (hs O W [a, a2, a3] hO2 hv2).mono ?_
      rintro e w3 ⟨hbl, rfl⟩
      have q0 : w3.cell? ⟨w.heap.size, 0, none⟩ = some (.slice none 0 0) := by rw [hbl.cell (by simp; omega)]; exact p0
      have q1 : w3.cell? ⟨w.heap.size + 1, 0, none⟩ = some (.int .i64 0) := by rw [hbl.cell (by simp; omega)]; exact p1
      have q2 : w3.frozen? ⟨w.heap.size, 0, none⟩ = false := by rw [hbl.frozen (by simp; omega)]; exact p2
      have q3 : w3.frozen? ⟨w.heap.size + 1, 0, none⟩ = false := by rw [hbl.frozen (by simp; omega)]; exact p3
      go_wp2
      refine leaves_cons (f := 83) (args := #[.pointer (some ⟨w.heap.size + 1, 0, none⟩), .pointer (some ⟨w.heap.size, 0, none⟩)]) (by simp) (by simp [go_sem]) ?_
      refine (inC_pan ⟨w.heap.size, 0, none⟩ ⟨w.heap.size + 1, 0, none⟩ (inE b s t) h0 _ _ q1 q3 q0 q2 (by simp)).mono ?_
      rintro e u' w'' ⟨rfl, rfl, rfl⟩
      show ∃ v, _ ∧ _
      have hb4 : Below w.heap.size w ((w3.setCell ⟨w.heap.size + 1, 0, none⟩ (.int .i64 (inE b s t))).setCell ⟨w.heap.size, 0, none⟩ (.slice none 0 0)).drew := (((hbw.trans (hbl.mono (by omega))).setCell (by show w.heap.size ≤ w.heap.size + 1; omega) _).setCell (by show w.heap.size ≤ w.heap.size; omega) _).drew
      refine ⟨.tuple #[.slice none 0 0, .int .i64 (inE b s t)], by simp [results, Try.results33, go_sem, q0, q1], hb4, _, rfl, ?_⟩
      rw [inB_no h0]
      exact out_rowInt (Go.Bas.Own.nil _ _ _) (Nat.le_refl _)
  · cases h
end Go.Proofs.Ytbojofchpnfnlaa

namespace Go.Proofs.Ytbojofchpnfnlaa
open Go Go.Am Go.RowKit Go.Mix Go.Bas
set_option maxRecDepth 100000
end Go.Proofs.Ytbojofchpnfnlaa

namespace Go.Proofs.Ytbojofchpnfnlaa
open Go Go.Am Go.RowKit Go.Mix Go.Bas
set_option maxRecDepth 100000
abbrev shHd : Sh := .agg [.int .i64, .int .i64, .int .i64, .int .i64, .rows (.barr 16), .rows (.agg [.int .i64, .bytes])]
abbrev shH6 : Sh := .agg [.int .i64, .int .i64, .int .i64, .int .i64, .int .i64, .barr 16, .barr 16]
structure H6 where
  (c la ln nx hp : Int)
  (s d : List UInt8)
def H6.v (h : H6) : V := .agg [.int .i64 h.c, .int .i64 h.la, .int .i64 h.ln, .int .i64 h.nx, .int .i64 h.hp, .barr 16 h.s, .barr 16 h.d]
end Go.Proofs.Ytbojofchpnfnlaa

namespace Go.Proofs.Ytbojofchpnfnlaa
open Go Go.Am Go.RowKit Go.Mix Go.Bas
set_option maxRecDepth 100000
end Go.Proofs.Ytbojofchpnfnlaa

namespace Go.Proofs.Ytbojofchpnfnlaa
open Go Go.Am Go.RowKit Go.Mix Go.Bas
set_option maxRecDepth 100000
theorem cutL_self {l : List UInt8} (h : l.length = 16) : cutL l 0 16 = l := by
  unfold cutL
  rw [List.drop_zero, List.take_of_length_le (by omega)]
theorem hdX_eq {c la ln nx hp : Int} {s d : List UInt8} (h : okX c la ln nx hp) (hs : s.length = 16) (hd : d.length = 16) : hdX c la ln nx hp s d = hd8 c la ln nx hp ++ (s ++ d) := by
  unfold hdX
  rw [if_pos h, cutL_self hs, cutL_self hd]
structure HdF (x : List UInt8) (c la ln nx hp : Int) (s d r : List UInt8) : Prop where
  e : gE x = 0
  c : gC x = c
  la : gLa x = la
  ln : gLn x = ln
  nx : gNx x = nx
  hp : gHp x = hp
  s : gS x = s
  d : gD x = d
  q : x.drop 40 = r
  l : x.length = 40 + r.length
theorem hd_back {c la ln nx hp : Int} {s d : List UInt8} (h : okX c la ln nx hp) (hs : s.length = 16) (hd : d.length = 16) (r : List UInt8) : HdF (hdX c la ln nx hp s d ++ r) c la ln nx hp s d r := by
  have e0 : hdX c la ln nx hp s d ++ r = hd8 c la ln nx hp ++ (s ++ (d ++ r)) := by rw [hdX_eq h hs hd]; simp
  generalize hdX c la ln nx hp s d ++ r = x at e0
  have h8 : (hd8 c la ln nx hp).length = 8 := rfl
  have hl : x.length = 40 + r.length := by rw [e0, List.length_append, List.length_append, List.length_append, hs, hd, h8]; omega
  obtain ⟨h1, h2, h3, h4, h5⟩ := h
  have k0 : gt x 0 = (96 + c / 16) % 256 := by rw [e0]; exact b8_toNat _
  have k1 : gt x 1 = (c % 16 * 16 + la / 65536) % 256 := by rw [e0]; exact b8_toNat _
  have k2 : gt x 2 = (la / 256) % 256 := by rw [e0]; exact b8_toNat _
  have k3 : gt x 3 = la % 256 := by rw [e0]; exact b8_toNat _
  have k4 : gt x 4 = (ln / 256) % 256 := by rw [e0]; exact b8_toNat _
  have k5 : gt x 5 = ln % 256 := by rw [e0]; exact b8_toNat _
  have k6 : gt x 6 = nx % 256 := by rw [e0]; exact b8_toNat _
  have k7 : gt x 7 = hp % 256 := by rw [e0]; exact b8_toNat _
  have hE : gE x = 0 := by
    unfold gE
    rw [if_neg (by omega), if_neg (by rw [k0]; simp only [ne_eq, Decidable.not_not]; omega)]
  have z : ∀ y, gz x y = y := fun y => if_pos hE
  have zb : ∀ y, gzb x y = y := fun y => if_pos hE
  refine ⟨hE, ?_, ?_, ?_, ?_, ?_, ?_, ?_, ?_, hl⟩
  · unfold gC; rw [z]; omega
  · unfold gLa; rw [z]; omega
  · unfold gLn; rw [z]; omega
  · unfold gNx; rw [z]; omega
  · unfold gHp; rw [z]; omega
  · unfold gS
    rw [zb, e0]
    unfold cutL
    rw [← h8, List.drop_left, show 24 - (hd8 c la ln nx hp).length = s.length by rw [h8, hs], List.take_left]
  · unfold gD
    rw [zb, e0]
    unfold cutL
    rw [← List.append_assoc, show 24 = (hd8 c la ln nx hp ++ s).length by rw [List.length_append, h8, hs], List.drop_left, show 40 - (hd8 c la ln nx hp ++ s).length = d.length by rw [List.length_append, h8, hs, hd], List.take_left]
  · rw [e0, ← List.append_assoc, ← List.append_assoc, show 40 = (hd8 c la ln nx hp ++ s ++ d).length by rw [List.length_append, List.length_append, h8, hs, hd], List.drop_left]
end Go.Proofs.Ytbojofchpnfnlaa

namespace Go.Proofs.Ytbojofchpnfnlaa
open Go Go.Am Go.RowKit Go.Mix Go.Bas
set_option maxRecDepth 100000
end Go.Proofs.Ytbojofchpnfnlaa

namespace Go.Proofs.Ytbojofchpnfnlaa
open Go Go.Am Go.RowKit Go.Mix Go.Bas
set_option maxRecDepth 100000
theorem isB16_of {M : Nat} {s : List V} (h : ∀ y ∈ s, inR M (.barr 16) y = true) : isB16 s = true := by
  refine List.all_eq_true.2 fun v hv => ?_
  obtain ⟨l, rfl, _⟩ := inR_barr (h v hv)
  rfl
end Go.Proofs.Ytbojofchpnfnlaa
