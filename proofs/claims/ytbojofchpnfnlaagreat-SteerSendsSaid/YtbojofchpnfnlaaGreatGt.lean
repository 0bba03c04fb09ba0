/- Part Gt of the proof: laws used by the law of this claim. -/
import Derived.Test.YtbojofchpnfnlaaGreatGs
set_option linter.all false
namespace Go.Proofs.YtbojofchpnfnlaaGreat
open Go Go.Am Go.RowKit Go.Mix Go.Bas
set_option maxRecDepth 100000
theorem inC_idle (p q : Addr) (w : World) (hq : w.cell? q = some (.int .i64 0)) (hz : w.frozen? q = false) :
    CallsD Tryz.prog 37 #[.pointer (some q), .pointer (some p)] .returning w fun e u' w' => e = .returned (.tuple #[]) ∧ u' = .returning ∧ w' = (w.setCell q (.int .i64 0)).drew := by
  refine callsD_of_wpS Tryz.func37 rfl fun c₀ cs hu => ?_
  apply wpS_seq
  refine wpS_region_draw fun t => ?_
  rw [show Tryz.prog.follows .mixedOrders = true by kernel_rfl]
  rcases lin4 (by kernel_rfl) (by kernel_rfl) (by kernel_rfl) (by kernel_rfl) (by kernel_rfl) (by kernel_rfl) t with h | h
  all_goals
    rw [h]
    clear h
    simp [wpOpsS, go_sem, recoverD, hu, Tryz.ntmps37, Exit.thenS, hq, hz]
    refine (caught_nil _ _).mono ?_
    rintro e w' ⟨rfl, rfl⟩
    simp [go_sem, hq, hz]
    apply wpS_seq
    apply wpS_region
    simp [wpOpsS, go_sem, Exit.thenS, hq, hz]
    refine wpS_cond (t := false) (by simp [Act.eval, Array.replicate]) ?_
    simp only [Bool.false_eq_true, if_false]
    refine wpS_of_wp (wp_skip ?_)
    cases c₀
    simp_all [bodyPostS, results, Tryz.results37]
theorem inC_pan (p q : Addr) (x : Int) (hx : x ≠ 0) (w : World) (y : Value) (hq : w.cell? q = some (.int .i64 0)) (hz : w.frozen? q = false) (hp : w.cell? p = some y) (hzp : w.frozen? p = false) (hpq : p.block ≠ q.block) :
    CallsD Tryz.prog 37 #[.pointer (some q), .pointer (some p)] (.panicking [{ v := .iface 44 (.int .i64 x), recovered := false }]) w fun e u' w' => e = .returned (.tuple #[]) ∧ u' = .panicking [{ v := .iface 44 (.int .i64 x), recovered := true }] ∧ w' = ((w.setCell q (.int .i64 x)).setCell p (.slice none 0 0)).drew := by
  refine callsD_of_wpS Tryz.func37 rfl fun c₀ cs hu => ?_
  apply wpS_seq
  refine wpS_region_draw fun t => ?_
  rw [show Tryz.prog.follows .mixedOrders = true by kernel_rfl]
  rcases lin4 (by kernel_rfl) (by kernel_rfl) (by kernel_rfl) (by kernel_rfl) (by kernel_rfl) (by kernel_rfl) t with h | h
  all_goals
    rw [h]
    clear h
    simp [wpOpsS, go_sem, recoverD, hu, Tryz.ntmps37, Exit.thenS, hq, hz]
    refine (caught_ifc _ _ _).mono ?_
    rintro e w' ⟨rfl, rfl⟩
    simp [go_sem, hq, hz]
    apply wpS_seq
    apply wpS_region
    simp [wpOpsS, go_sem, Exit.thenS, hq, hz]
    refine wpS_cond (t := true) (by simp [Act.eval, Array.replicate, hx]) ?_
    simp only [if_true]
    apply wpS_region
    have hp' : (w.setCell q (.int .i64 x)).cell? p = some y := (World.cell?_of_block (w := w) (Below.heap_setCell w q _ p.block hpq)).trans hp
    have hzp' : (w.setCell q (.int .i64 x)).frozen? p = false := by rw [World.frozen?_setCell]; exact hzp
    simp [wpOpsS, go_sem, hq, hz, hp', hzp', bodyPostS, results, Tryz.results37]
def cIns : List V → Option (V × Bool)
  | [.bytes b, .rows (.barr 16) s, .rows (.agg [.int .i64, .bytes]) t] => some (.tup [.ownv 5 (.bytes (inB b s t)), .int .i64 (inE b s t)], (decide (b.length ≤ 140737488352000 ∧ t.length ≤ 4611686018427387904) && (isB16 s && okS s)))
  | _ => none
theorem inB_no {b : List UInt8} {s t : List V} (h : inE b s t ≠ 0) : inB b s t = [] := if_neg h
theorem dtIns2_con : ∀ vs v, cIns vs = some (v, true) → SpecV Tryz.prog 19 vs v := by
  intro vs v h; unfold cIns at h; split at h
  · rename_i b s t
    injection h with h; injection h with h hb; subst h
    intro O w cs hO hv
    obtain ⟨a, a2, a3, rfl, ha, ha2, ha3⟩ := hv.three_inv
    show Calls Tryz.prog 19 #[a, a2, a3] w _
    have hmf : ∀ (fn : Fn) (first cap : Array Value) (w : World), (Instr.makeFunc fn first cap).run Tryz.prog w = .ok (.func fn first cap) w := fun _ _ _ _ => rfl
    go_enter_defers Tryz.func19, Tryz.ntmps19
    go_wp2_with fail
    generalize hW : ((w.alloc (Obj.cells #[Value.slice none 0 0] 22)).alloc (Obj.cells #[Value.int IntKind.i64 0] 44)) = W
    have hbw : Below w.heap.size w W := by rw [← hW]; exact ((Below.refl _ _).alloc (Nat.le_refl _) _).alloc (by simp) _
    have hWs : W.heap.size = w.heap.size + 2 := by rw [← hW]; simp
    have p0 : W.cell? ⟨w.heap.size, 0, none⟩ = some (.slice none 0 0) := by rw [← hW]; simp [go_sem]
    have p1 : W.cell? ⟨w.heap.size + 1, 0, none⟩ = some (.int .i64 0) := by rw [← hW]; simp [go_sem]
    have p2 : W.frozen? ⟨w.heap.size, 0, none⟩ = false := by rw [← hW]; simp [go_sem]
    have p3 : W.frozen? ⟨w.heap.size + 1, 0, none⟩ = false := by rw [← hW]; simp [go_sem]
    clear hW
    have hv2 : VReps no O W [V.bytes b, V.rows (.barr 16) s, V.rows (.agg [.int .i64, .bytes]) t] [a, a2, a3] := hv.ext (Ext.mk (by omega) (fun _ _ e => e) (fun g hg _ => hbw.block g hg) fun g hg => .inl hg)
    have hO2 : ∀ g, O g → g < W.heap.size := fun g hg => by have := hO g hg; omega
    have hbd := hb
    by_cases h0 : inE b s t = 0
    · have hs : SpecP Tryz.prog 39 [V.bytes b, V.rows (.barr 16) s, V.rows (.agg [.int .i64, .bytes]) t] (.inl (.ownv 5 (.bytes (inB b s t)))) := dtIns_pcon _ _ (by show PTo (.br (decide (b.length ≤ 140737488352000 ∧ t.length ≤ 4611686018427387904) && (isB16 s && okS s)) (.br (inE b s t == 0) _ _) _) _; rw [hbd, h0]; exact .t (.t .val))
      refine (hs O W [a, a2, a3] hO2 hv2).mono ?_
      rintro e w3 ⟨hbl, c, rfl, hout⟩
      obtain ⟨A, n, k, rfl, hown⟩ := out_bytes hout
      have q0 : w3.cell? ⟨w.heap.size, 0, none⟩ = some (.slice none 0 0) := by rw [hbl.cell (by simp; omega)]; exact p0
      have q1 : w3.cell? ⟨w.heap.size + 1, 0, none⟩ = some (.int .i64 0) := by rw [hbl.cell (by simp; omega)]; exact p1
      have q2 : w3.frozen? ⟨w.heap.size, 0, none⟩ = false := by rw [hbl.frozen (by simp; omega)]; exact p2
      have q3 : w3.frozen? ⟨w.heap.size + 1, 0, none⟩ = false := by rw [hbl.frozen (by simp; omega)]; exact p3
      go_wp2
      refine leaves_cons (f := 37) (args := #[.pointer (some ⟨w.heap.size + 1, 0, none⟩), .pointer (some ⟨w.heap.size, 0, none⟩)]) (by simp) (by simp [go_sem]) ?_
      refine (inC_idle ⟨w.heap.size, 0, none⟩ ⟨w.heap.size + 1, 0, none⟩ _ (World.cell?_setCell_same' _ _ _ (by simp [go_sem, q1])) (by simp [go_sem, q3])).mono ?_
      rintro e u' w'' ⟨rfl, rfl, rfl⟩
      simp only [Leaves, settle]
      have ho4 : Go.Bas.Own ((((w3.setCell ⟨w.heap.size, 0, none⟩ (.slice A n k)).setCell ⟨w.heap.size + 1, 0, none⟩ (.int .i64 0)).setCell ⟨w.heap.size + 1, 0, none⟩ (.int .i64 0)).drew) W.heap.size 5 A n k (inB b s t) := (((hown.far (by show w.heap.size < _; omega) _).far (by show w.heap.size + 1 < _; omega) _).far (by show w.heap.size + 1 < _; omega) _).step (Below.refl _ _).drew
      have hb4 : Below w.heap.size w ((((w3.setCell ⟨w.heap.size, 0, none⟩ (.slice A n k)).setCell ⟨w.heap.size + 1, 0, none⟩ (.int .i64 0)).setCell ⟨w.heap.size + 1, 0, none⟩ (.int .i64 0)).drew) := ((((hbw.trans (hbl.mono (by omega))).setCell (by show w.heap.size ≤ w.heap.size; omega) _).setCell (by show w.heap.size ≤ w.heap.size + 1; omega) _).setCell (by show w.heap.size ≤ w.heap.size + 1; omega) _).drew
      have k3 : ((((w3.setCell ⟨w.heap.size, 0, none⟩ (.slice A n k)).setCell ⟨w.heap.size + 1, 0, none⟩ (.int .i64 0)).setCell ⟨w.heap.size + 1, 0, none⟩ (.int .i64 0))).cell? ⟨w.heap.size + 1, 0, none⟩ = some (.int .i64 0) := World.cell?_setCell_same' _ _ _ (by rw [World.cell?_setCell_same' _ _ _ (by simp [go_sem, q1])]; rfl)
      refine ⟨.tuple #[.slice A n k, .int .i64 0], by simp [results, Tryz.results19, go_sem, q0, q1, k3], hb4, _, rfl, ?_⟩
      rw [h0]
      exact out_rowInt ho4 (by omega)
    · have hs : SpecP Tryz.prog 39 [V.bytes b, V.rows (.barr 16) s, V.rows (.agg [.int .i64, .bytes]) t] (.inr (pnc (inE b s t))) := dtIns_pcon _ _ (by show PTo (.br (decide (b.length ≤ 140737488352000 ∧ t.length ≤ 4611686018427387904) && (isB16 s && okS s)) (.br (inE b s t == 0) _ _) _) _; rw [hbd, show (inE b s t == 0) = false by simpa using h0]; exact .t (.f .pan))
      refine (hs O W [a, a2, a3] hO2 hv2).mono ?_
      rintro e w3 ⟨hbl, rfl⟩
      have q0 : w3.cell? ⟨w.heap.size, 0, none⟩ = some (.slice none 0 0) := by rw [hbl.cell (by simp; omega)]; exact p0
      have q1 : w3.cell? ⟨w.heap.size + 1, 0, none⟩ = some (.int .i64 0) := by rw [hbl.cell (by simp; omega)]; exact p1
      have q2 : w3.frozen? ⟨w.heap.size, 0, none⟩ = false := by rw [hbl.frozen (by simp; omega)]; exact p2
      have q3 : w3.frozen? ⟨w.heap.size + 1, 0, none⟩ = false := by rw [hbl.frozen (by simp; omega)]; exact p3
      go_wp2
      refine leaves_cons (f := 37) (args := #[.pointer (some ⟨w.heap.size + 1, 0, none⟩), .pointer (some ⟨w.heap.size, 0, none⟩)]) (by simp) (by simp [go_sem]) ?_
      refine (inC_pan ⟨w.heap.size, 0, none⟩ ⟨w.heap.size + 1, 0, none⟩ (inE b s t) h0 _ _ q1 q3 q0 q2 (by simp)).mono ?_
      rintro e u' w'' ⟨rfl, rfl, rfl⟩
      show ∃ v, _ ∧ _
      have hb4 : Below w.heap.size w ((w3.setCell ⟨w.heap.size + 1, 0, none⟩ (.int .i64 (inE b s t))).setCell ⟨w.heap.size, 0, none⟩ (.slice none 0 0)).drew := (((hbw.trans (hbl.mono (by omega))).setCell (by show w.heap.size ≤ w.heap.size + 1; omega) _).setCell (by show w.heap.size ≤ w.heap.size; omega) _).drew
      refine ⟨.tuple #[.slice none 0 0, .int .i64 (inE b s t)], by simp [results, Tryz.results19, go_sem, q0, q1], hb4, _, rfl, ?_⟩
      rw [inB_no h0]
      exact out_rowInt (Go.Bas.Own.nil _ _ _) (Nat.le_refl _)
  · cases h
end Go.Proofs.YtbojofchpnfnlaaGreat

namespace Go.Proofs.YtbojofchpnfnlaaGreat
open Go Go.Am Go.RowKit Go.Mix Go.Bas
set_option maxRecDepth 100000
noncomputable def af_rDtHead : AF := afOf Tryz.prog Tryz.f48 []
theorem af_rDtHead_ok : AllOk Tryz.prog 48 af_rDtHead := .flat Tryz.func48 (by kernel_rfl) (by kernel_rfl) (by kernel_rfl) (by kernel_rfl) (by kernel_rfl)
noncomputable def GEdti : List (Nat × Con) := [(25, .val [.bytes] cSxGet)]
theorem GEdti_ok : GOk Tryz.prog GEdti := .cons (enters_of Tryz.func25 (by kernel_rfl) rfl) rSxGet_con <| .nil
noncomputable def IEdti : List (Nat × AF) := []
theorem IEdti_ok : IOk Tryz.prog IEdti := .nil
noncomputable def CEdti : List (Nat × (List Nat × (S → Option (Bool × Tr)))) := []
theorem CEdti_ok : COk Tryz.prog CEdti := .nil
noncomputable def XEdti : List (Nat × (List Sh × (List V → PT))) := []
theorem XEdti_ok : XOk Tryz.prog XEdti := .nil
noncomputable def Edti : Env := ⟨Tryz.prog, GEdti, IEdti, CEdti, XEdti⟩
theorem Edti_ok : EnvOk Edti := ⟨by kernel_rfl, GEdti_ok, IEdti_ok, CEdti_ok, XEdti_ok⟩
theorem rDtHead_t (b : List UInt8) : callV Edti af_rDtHead [.bytes b] =
 bif gE b == (0 : Int) then
 bif gLn b != IntKind.i64.wrap ((↑b.length : Int) - (40 : Int)) then
 some
 (V.tup
 [V.agg
 [V.int IntKind.i64 (0 : Int), V.int IntKind.i64 (0 : Int), V.int IntKind.i64 (0 : Int),
 V.int IntKind.i64 (0 : Int), V.int IntKind.i64 (0 : Int),
 V.barr (16 : Nat) (List.replicate (16 : Nat) (0 : UInt8)),
 V.barr (16 : Nat) (List.replicate (16 : Nat) (0 : UInt8))],
 V.int IntKind.i64 (5 : Int)])
 else
 some
 (V.tup
 [V.agg
 [V.int IntKind.i64 (gC b), V.int IntKind.i64 (gLa b), V.int IntKind.i64 (gLn b),
 V.int IntKind.i64 (gNx b), V.int IntKind.i64 (gHp b), V.barr (16 : Nat) (gS b),
 V.barr (16 : Nat) (gD b)],
 V.int IntKind.i64 (gE b)])
 else
 some
 (V.tup
 [V.agg
 [V.int IntKind.i64 (gC b), V.int IntKind.i64 (gLa b), V.int IntKind.i64 (gLn b), V.int IntKind.i64 (gNx b),
 V.int IntKind.i64 (gHp b), V.barr (16 : Nat) (gS b), V.barr (16 : Nat) (gD b)],
 V.int IntKind.i64 (gE b)]) := by kernel_rfl

def zB (e : Int) (l : List UInt8) : List UInt8 := if e = 0 then l else List.replicate 16 0
def cRHead : List V → Option (V × Bool)
  | [.bytes b] => some (.tup [.agg [.int .i64 (zI (hdE b) (gC b)), .int .i64 (zI (hdE b) (gLa b)), .int .i64 (zI (hdE b) (gLn b)), .int .i64 (zI (hdE b) (gNx b)), .int .i64 (zI (hdE b) (gHp b)), .barr 16 (zB (hdE b) (gS b)), .barr 16 (zB (hdE b) (gD b))], .int .i64 (hdE b)], decide (b.length ≤ 140737488355328))
  | _ => none
theorem rDtHead_v (b : List UInt8) (h : b.length ≤ 140737488355328) : callV Edti af_rDtHead [.bytes b] = some (.tup [.agg [.int .i64 (zI (hdE b) (gC b)), .int .i64 (zI (hdE b) (gLa b)), .int .i64 (zI (hdE b) (gLn b)), .int .i64 (zI (hdE b) (gNx b)), .int .i64 (zI (hdE b) (gHp b)), .barr 16 (zB (hdE b) (gS b)), .barr 16 (zB (hdE b) (gD b))], .int .i64 (hdE b)]) := by
  rw [rDtHead_t, w64 (by omega) (by omega)]
  by_cases h0 : gE b = 0
  · by_cases h1 : gLn b = (b.length : Int) - 40
    · have e : hdE b = 0 := by unfold hdE; rw [if_pos h0, if_pos h1]
      rw [e]
      simp (disch := omega) only [dec_t, dec_f, inB_t, inC_t, andT_t, cond_true, cond_false, Bool.and_true, Bool.true_and, w64, wu32, wu8, nble_t, nblt_t, Bool.not_true, Bool.not_false, Bool.not_not, ieq_t, ieq_f, ine_t, ine_f, true_and, and_true, andT_l]
      first | rfl | (rw [h0]; rfl)
    · have e : hdE b = 5 := by unfold hdE; rw [if_pos h0, if_neg h1]
      rw [e]
      simp (disch := omega) only [dec_t, dec_f, inB_t, inC_t, andT_t, cond_true, cond_false, Bool.and_true, Bool.true_and, w64, wu32, wu8, nble_t, nblt_t, Bool.not_true, Bool.not_false, Bool.not_not, ieq_t, ieq_f, ine_t, ine_f, true_and, and_true, andT_l]
      rfl
  · have e : hdE b = gE b := by unfold hdE; rw [if_neg h0]
    rw [e]
    have g1 : ∀ x, gz b x = 0 := fun x => if_neg h0
    have g2 : ∀ x, gzb b x = List.replicate 16 0 := fun x => if_neg h0
    have z1 : ∀ x, zI (gE b) x = 0 := fun x => if_neg h0
    have z2 : ∀ x, zB (gE b) x = List.replicate 16 0 := fun x => if_neg h0
    simp only [gC, gLa, gLn, gNx, gHp, gS, gD, g1, g2, z1, z2]
    simp (disch := omega) only [dec_t, dec_f, inB_t, inC_t, andT_t, cond_true, cond_false, Bool.and_true, Bool.true_and, w64, wu32, wu8, nble_t, nblt_t, Bool.not_true, Bool.not_false, Bool.not_not, ieq_t, ieq_f, ine_t, ine_f, true_and, and_true, andT_l]
theorem rDtHead_con : ∀ vs v, cRHead vs = some (v, true) → SpecV Tryz.prog 48 vs v := by
  intro vs v h; unfold cRHead at h; split at h
  · rename_i b
    injection h with h; injection h with h hb; subst h
    exact callV_ok Edti_ok af_rDtHead_ok (rDtHead_v b (of_decide_eq_true hb))
  · cases h
end Go.Proofs.YtbojofchpnfnlaaGreat

namespace Go.Proofs.YtbojofchpnfnlaaGreat
open Go Go.Am Go.RowKit Go.Mix Go.Bas
set_option maxRecDepth 100000
abbrev shHd : Sh := .agg [.int .i64, .int .i64, .int .i64, .int .i64, .rows (.barr 16), .rows (.agg [.int .i64, .bytes])]
abbrev shH6 : Sh := .agg [.int .i64, .int .i64, .int .i64, .int .i64, .int .i64, .barr 16, .barr 16]
structure H6 where
  (c la ln nx hp : Int)
  (s d : List UInt8)
def H6.v (h : H6) : V := .agg [.int .i64 h.c, .int .i64 h.la, .int .i64 h.ln, .int .i64 h.nx, .int .i64 h.hp, .barr 16 h.s, .barr 16 h.d]
def nvW (h : H6) (nx lf : Int) (t l : List V) : List (Nat × Option Blk) := [(0, some (.var shHd (.agg [.int .i64 nx, .int .i64 lf, .int .i64 0, .int .i64 0, .own 2 l.length (.barr 16), .rows (.agg [.int .i64, .bytes]) t]))), (1, some (.var shH6 h.v)), (2, some (.row 30 (.barr 16) (.rows (.barr 16) l)))]
def nvS (h : H6) (b : List UInt8) (nx lf : Int) (t l s : List V) (i : Int) : S := ⟨[(12, .ref 0 [] 0 shHd), (13, .int .i64 i), (1, .rows (.barr 16) s), (0, .bytes b), (8, .ref 1 [] 0 shH6)], nvW h nx lf t l, 3, true, 111⟩
def nvX (h : H6) (b : List UInt8) (nx lf : Int) (t l s : List V) : S := ⟨[(12, .ref 0 [] 0 shHd), (1, .rows (.barr 16) s), (0, .bytes b), (8, .ref 1 [] 0 shH6)], nvW h nx lf t l, 3, true, 111⟩
def nvG : S → Option (Bool × Tr) := gOf 111 3 fun sl hp => match sl 12, sl 13, sl 1, sl 0, sl 8, hp 0, hp 1, hp 2 with
  | some (.ref 0 [] 0 (.agg [.int .i64, .int .i64, .int .i64, .int .i64, .rows (.barr 16), .rows (.agg [.int .i64, .bytes])])), some (.int .i64 i), some (.rows (.barr 16) s), some (.bytes b),
    some (.ref 1 [] 0 (.agg [.int .i64, .int .i64, .int .i64, .int .i64, .int .i64, .barr 16, .barr 16])),
    some (.var (.agg [.int .i64, .int .i64, .int .i64, .int .i64, .rows (.barr 16), .rows (.agg [.int .i64, .bytes])]) (.agg [.int .i64 nx, .int .i64 lf, .int .i64 0, .int .i64 0, .own 2 k (.barr 16), .rows (.agg [.int .i64, .bytes]) t])),
    some (.var (.agg [.int .i64, .int .i64, .int .i64, .int .i64, .int .i64, .barr 16, .barr 16]) (.agg [.int .i64 hc, .int .i64 hla, .int .i64 hln, .int .i64 hnx, .int .i64 hhp, .barr 16 hs, .barr 16 hd])),
    some (.row T (.barr 16) (.rows (.barr 16) l)) =>
      some (decide (k = l.length ∧ T = 30 ∧ -1 ≤ i ∧ i < s.length ∧ s.length ≤ 10 ∧ l.length + i ≤ 100) && isB16 s, .leaf (.exit 0) (nvX ⟨hc, hla, hln, hnx, hhp, hs, hd⟩ b nx lf t (l ++ (s.take (i + 1).toNat).reverse) s))
  | _, _, _, _, _, _, _, _ => none
noncomputable def af_rDtIns : AF := afOf Tryz.prog Tryz.f23 [.sum [12, 13, 1, 0, 8] [] nvG]
noncomputable def nvC : AC := (af_rDtIns.ac.sums.headD (.skip, [], [], fun _ => none)).1
noncomputable def GEdtm : List (Nat × Con) := [(48, .val [.bytes] cRHead), (26, .val [.bytes, .int .i64, .int .i64, .int .i64] cRWk9), (49, .val [.agg [.int .i64, .int .i64, .int .i64, .int .i64, .rows (.barr 16), .rows (.agg [.int .i64, .bytes])]] cSrhPut), (50, .val [.agg [.int .i64, .int .i64, .int .i64, .int .i64, .int .i64, .barr 16, .barr 16]] cRSxPut)]
theorem GEdtm_ok : GOk Tryz.prog GEdtm := .cons (enters_of Tryz.func48 (by kernel_rfl) rfl) rDtHead_con <| .cons (enters_of Tryz.func26 (by kernel_rfl) rfl) rWk9_con <| .cons (enters_of Tryz.func49 (by kernel_rfl) rfl) rSrhPut_con <| .cons (enters_of Tryz.func50 (by kernel_rfl) rfl) rSxPut_con <| .nil
noncomputable def IEdtm : List (Nat × AF) := []
theorem IEdtm_ok : IOk Tryz.prog IEdtm := .nil
noncomputable def CEdtm : List (Nat × (List Nat × (S → Option (Bool × Tr)))) := []
theorem CEdtm_ok : COk Tryz.prog CEdtm := .nil
noncomputable def XEdtm : List (Nat × (List Sh × (List V → PT))) := []
theorem XEdtm_ok : XOk Tryz.prog XEdtm := .nil
noncomputable def Edtm : Env := ⟨Tryz.prog, GEdtm, IEdtm, CEdtm, XEdtm⟩
theorem Edtm_ok : EnvOk Edtm := ⟨by kernel_rfl, GEdtm_ok, IEdtm_ok, CEdtm_ok, XEdtm_ok⟩
theorem nv_b (h : H6) (b : List UInt8) (nx lf : Int) (t l s : List V) (i : Int) : aev Edtm (inlN Edtm 6) nvC (bodyK [12, 13, 1, 0, 8] [12, 1, 0, 8] []) (nvS h b nx lf t l s i) =
 bif decide (i ≥ (0 : Int)) then
 bif
 andT (andT true (Am.inB i s.length))
 (((l ++
 V.barr (16 : Nat) (toA (s.getD i.toNat V.undef)) ::
 List.replicate (nat_lit 0) (V.barr (16 : Nat) (List.replicate (16 : Nat) (0 : UInt8)))).length *
 (16 : Nat)).ble
 (140737488355328 : Nat)) &&
 true then
 some
 (Ex.normal,
 { sl := [((12 : Nat), V.ref (0 : Nat) [] (0 : Nat) (Sh.agg [Sh.int IntKind.i64, Sh.int IntKind.i64, Sh.int IntKind.i64, Sh.int IntKind.i64, (Sh.barr (16 : Nat)).rows, (Sh.agg [Sh.int IntKind.i64, Sh.bytes]).rows])), ((13 : Nat), V.int IntKind.i64 (IntKind.i64.wrap (i - (1 : Int)))), ((1 : Nat), V.rows (Sh.barr (16 : Nat)) s), ((0 : Nat), V.bytes b), ((8 : Nat), V.ref (1 : Nat) [] (0 : Nat) (Sh.agg [Sh.int IntKind.i64, Sh.int IntKind.i64, Sh.int IntKind.i64, Sh.int IntKind.i64, Sh.int IntKind.i64, Sh.barr (16 : Nat), Sh.barr (16 : Nat)]))], hp := [((0 : Nat), some (Blk.var (Sh.agg [Sh.int IntKind.i64, Sh.int IntKind.i64, Sh.int IntKind.i64, Sh.int IntKind.i64, (Sh.barr (16 : Nat)).rows, (Sh.agg [Sh.int IntKind.i64, Sh.bytes]).rows]) (V.agg [V.int IntKind.i64 nx, V.int IntKind.i64 lf, V.int IntKind.i64 (0 : Int), V.int IntKind.i64 (0 : Int), V.own (2 : Nat) (l ++ V.barr (16 : Nat) (toA (s.getD i.toNat V.undef)) :: List.replicate (nat_lit 0) (V.barr (16 : Nat) (List.replicate (16 : Nat) (0 : UInt8)))).length (Sh.barr (16 : Nat)), V.rows (Sh.agg [Sh.int IntKind.i64, Sh.bytes]) t]))), ((1 : Nat), some (Blk.var (Sh.agg [Sh.int IntKind.i64, Sh.int IntKind.i64, Sh.int IntKind.i64, Sh.int IntKind.i64, Sh.int IntKind.i64, Sh.barr (16 : Nat), Sh.barr (16 : Nat)]) (V.agg [V.int IntKind.i64 h.1, V.int IntKind.i64 h.2, V.int IntKind.i64 h.3, V.int IntKind.i64 h.4, V.int IntKind.i64 h.5, V.barr (16 : Nat) h.6, V.barr (16 : Nat) h.7]))), ((2 : Nat), some (Blk.row (30 : Nat) (Sh.barr (16 : Nat)) (V.rows (Sh.barr (16 : Nat)) (l ++ V.barr (16 : Nat) (toA (s.getD i.toNat V.undef)) :: List.replicate (nat_lit 0) (V.barr (16 : Nat) (List.replicate (16 : Nat) (0 : UInt8)))))))], nx := (3 : Nat), ob := true, n := (111 : Nat) })
 else none
 else
 some
 (Ex.exit (0 : Nat),
 { sl := [((12 : Nat), V.ref (0 : Nat) [] (0 : Nat) (Sh.agg [Sh.int IntKind.i64, Sh.int IntKind.i64, Sh.int IntKind.i64, Sh.int IntKind.i64, (Sh.barr (16 : Nat)).rows, (Sh.agg [Sh.int IntKind.i64, Sh.bytes]).rows])), ((1 : Nat), V.rows (Sh.barr (16 : Nat)) s), ((0 : Nat), V.bytes b), ((8 : Nat), V.ref (1 : Nat) [] (0 : Nat) (Sh.agg [Sh.int IntKind.i64, Sh.int IntKind.i64, Sh.int IntKind.i64, Sh.int IntKind.i64, Sh.int IntKind.i64, Sh.barr (16 : Nat), Sh.barr (16 : Nat)]))], hp := [((0 : Nat), some (Blk.var (Sh.agg [Sh.int IntKind.i64, Sh.int IntKind.i64, Sh.int IntKind.i64, Sh.int IntKind.i64, (Sh.barr (16 : Nat)).rows, (Sh.agg [Sh.int IntKind.i64, Sh.bytes]).rows]) (V.agg [V.int IntKind.i64 nx, V.int IntKind.i64 lf, V.int IntKind.i64 (0 : Int), V.int IntKind.i64 (0 : Int), V.own (2 : Nat) l.length (Sh.barr (16 : Nat)), V.rows (Sh.agg [Sh.int IntKind.i64, Sh.bytes]) t]))), ((1 : Nat), some (Blk.var (Sh.agg [Sh.int IntKind.i64, Sh.int IntKind.i64, Sh.int IntKind.i64, Sh.int IntKind.i64, Sh.int IntKind.i64, Sh.barr (16 : Nat), Sh.barr (16 : Nat)]) (V.agg [V.int IntKind.i64 h.1, V.int IntKind.i64 h.2, V.int IntKind.i64 h.3, V.int IntKind.i64 h.4, V.int IntKind.i64 h.5, V.barr (16 : Nat) h.6, V.barr (16 : Nat) h.7]))), ((2 : Nat), some (Blk.row (30 : Nat) (Sh.barr (16 : Nat)) (V.rows (Sh.barr (16 : Nat)) l)))], nx := (3 : Nat), ob := true, n := (111 : Nat) }) := by kernel_rfl

structure NvX where
  (h : H6)
  (b : List UInt8)
  (nx lf : Int)
  (t l s : List V)
  (i : Int)
theorem nv_take {s : List V} {k : Nat} (h : k < s.length) : (s.take (k + 1)).reverse = s.getD k .undef :: (s.take k).reverse := by
  rw [List.take_succ_eq_append_getElem h, List.reverse_append]
  simp [List.getD_eq_getElem?_getD, h]
theorem nv_loop : LoopOk Tryz.prog nvC.erase [] nvG := by
  refine loop_ok Edtm_ok (d := 6) (AC.flat_ok (by kernel_rfl)) [12, 13, 1, 0, 8] [12, 1, 0, 8] [] nvG (X := NvX) (fun x => nvS x.h x.b x.nx x.lf x.t x.l x.s x.i) (fun x => .leaf (.exit 0) (nvX x.h x.b x.nx x.lf x.t (x.l ++ (x.s.take (x.i + 1).toNat).reverse) x.s)) (fun x => (-1 ≤ x.i ∧ x.i < x.s.length ∧ x.s.length ≤ 10 ∧ x.l.length + x.i ≤ 100) ∧ isB16 x.s = true) (fun x => (x.i + 1).toNat) ?_ ?_
  · intro s t h
    obtain ⟨h1, h2, h3, h⟩ := gOf_spec h
    split at h
    · rename_i i s b nx lf k t jc jla jln jnx jhp js jd T l q1 q2 q3 q4 q5 q6 q7 q8
      injection h with h; injection h with hc ht
      obtain ⟨hc, hb⟩ := (Bool.and_eq_true _ _).mp hc
      obtain ⟨c1, c2, c3⟩ := of_decide_eq_true hc
      subst c1; subst c2
      exact ⟨⟨⟨jc, jla, jln, jnx, jhp, js, jd⟩, b, nx, lf, t, l, s, i⟩, .one h1 h2 (by simp [q1, q2, q3, q4, q5]) (by simp [nvW, H6.v, q6, q7, q8]), ⟨c3, hb⟩, ht.symm⟩
    · cases h
  · rintro ⟨h, b, nx, lf, t, l, s, i⟩ ⟨⟨h0, h1, hM, hl⟩, hB⟩
    simp only at h0 h1 hM hl hB ⊢
    rw [nv_b]
    have eL : ∀ (x y : V), l ++ x :: List.replicate (nat_lit 0) y = l ++ [x] := fun _ _ => rfl
    simp only [eL]
    by_cases hi : 0 ≤ i
    · have hk : i.toNat < s.length := by omega
      rw [isB16_get hB hk]
      have hll : (l ++ [s.getD i.toNat V.undef]).length = l.length + 1 := by simp
      refine .inl ⟨⟨h, b, nx, lf, t, l ++ [s.getD i.toNat V.undef], s, i - 1⟩, ?_, ⟨⟨by dsimp only; omega, by dsimp only; omega, hM, by dsimp only; rw [hll]; omega⟩, hB⟩, by dsimp only; omega, leaf_eq ?_⟩
      · rw [w64 (x := i - 1) (by omega) (by omega)]
        unfold nvS nvW H6.v
        simp only [hll]
        simp (disch := omega) only [dec_t, dec_f, inB_t, inC_t, andT_t, cond_true, cond_false, Bool.and_true, Bool.true_and, w64, wu32, wu8, nble_t, nblt_t, Bool.not_true, Bool.not_false, Bool.not_not, ieq_t, ieq_f, ine_t, ine_f, true_and, and_true, andT_l]
      · dsimp only
        rw [show (i - 1 + 1).toNat = i.toNat by omega, show (i + 1).toNat = i.toNat + 1 by omega, nv_take hk]
        simp
    · refine .inr ⟨.exit 0, nvX h b nx lf t l s, ?_, nofun, ?_⟩
      · simp (disch := omega) only [dec_t, dec_f, inB_t, inC_t, andT_t, cond_true, cond_false, Bool.and_true, Bool.true_and, w64, wu32, wu8, nble_t, nblt_t, Bool.not_true, Bool.not_false, Bool.not_not, ieq_t, ieq_f, ine_t, ine_f, true_and, and_true, andT_l]
        rfl
      · rw [show (i + 1).toNat = 0 by omega]
        simp only [List.take_zero, List.reverse_nil, List.append_nil]
        exact .leaf
theorem af_rDtIns_ok : AllOk Tryz.prog 23 af_rDtIns := .sums Tryz.func23 (by kernel_rfl) (by kernel_rfl) (by kernel_rfl) (by kernel_rfl) (sums_one (c := nvC) (ts := [12, 13, 1, 0, 8]) (by kernel_rfl) (by kernel_rfl) nv_loop)
theorem rDtIns_t (b : List UInt8) (s t : List V) : callV Edtm af_rDtIns [.bytes b, .rows (.barr 16) s, .rows (.agg [.int .i64, .bytes]) t] =
 bif andT true (decide (b.length ≤ (140737488355328 : Nat))) then
 bif hdE b != (0 : Int) then some (V.tup [V.ownv (5 : Nat) (V.bytes []), V.int IntKind.i64 (hdE b)])
 else
 bif zI (hdE b) (gNx b) == (43 : Int) then
 some (V.tup [V.ownv (5 : Nat) (V.bytes []), V.int IntKind.i64 (7 : Int)])
 else
 bif zI (hdE b) (gNx b) == (0 : Int) then
 some (V.tup [V.ownv (5 : Nat) (V.bytes []), V.int IntKind.i64 (7 : Int)])
 else
 bif (↑s.length : Int) == (0 : Int) then
 some (V.tup [V.ownv (5 : Nat) (V.bytes []), V.int IntKind.i64 (8 : Int)])
 else
 bif decide ((↑s.length : Int) > (9 : Int)) then
 some (V.tup [V.ownv (5 : Nat) (V.bytes []), V.int IntKind.i64 (8 : Int)])
 else
 bif
 andT true
 (decide (b.length ≤ (140737488355328 : Nat) ∧ (0 : Int) ≤ (0 : Int) ∧ (0 : Int) ≤ (8 : Int))) then
 bif rwE b (zI (hdE b) (gNx b)) (40 : Int) (0 : Int) == (0 : Int) then
 bif decide ((↑(rwV b (zI (hdE b) (gNx b)) (40 : Int) (0 : Int)).length : Int) > (8 : Int)) then
 some (V.tup [V.ownv (5 : Nat) (V.bytes []), V.int IntKind.i64 (8 : Int)])
 else
 bif
 decide
 ((1 : Nat) =
 (V.barr (16 : Nat) (zB (hdE b) (gD b)) ::
 List.replicate (nat_lit 0)
 (V.barr (16 : Nat) (List.replicate (16 : Nat) (0 : UInt8)))).length ∧
 (30 : Nat) = (30 : Nat) ∧
 (-1 : Int) ≤ IntKind.i64.wrap ((↑s.length : Int) - (1 : Int)) ∧
 IntKind.i64.wrap ((↑s.length : Int) - (1 : Int)) < (↑s.length : Int) ∧
 s.length ≤ (10 : Nat) ∧
 (↑(V.barr (16 : Nat) (zB (hdE b) (gD b)) ::
 List.replicate (nat_lit 0)
 (V.barr (16 : Nat)
 (List.replicate (16 : Nat) (0 : UInt8)))).length :
 Int) +
 IntKind.i64.wrap ((↑s.length : Int) - (1 : Int)) ≤
 (100 : Int)) &&
 isB16 s then
 bif
 andT true
 (decide (t.length ≤ (4611686018427387904 : Nat)) &&
 okS
 (V.barr (16 : Nat) (zB (hdE b) (gD b)) ::
 List.replicate (nat_lit 0)
 (V.barr (16 : Nat) (List.replicate (16 : Nat) (0 : UInt8))) ++
 (List.take (IntKind.i64.wrap ((↑s.length : Int) - (1 : Int)) + (1 : Int)).toNat
 s).reverse)) then
 bif
 srC (zI (hdE b) (gNx b)) (↑s.length : Int) (0 : Int) (0 : Int)
 (V.barr (16 : Nat) (zB (hdE b) (gD b)) ::
 List.replicate (nat_lit 0)
 (V.barr (16 : Nat) (List.replicate (16 : Nat) (0 : UInt8))) ++
 (List.take (IntKind.i64.wrap ((↑s.length : Int) - (1 : Int)) + (1 : Int)).toNat
 s).reverse)
 t !=
 (0 : Int) then
 some
 (V.tup
 [V.ownv (5 : Nat) (V.bytes []),
 V.int IntKind.i64
 (srC (zI (hdE b) (gNx b)) (↑s.length : Int) (0 : Int) (0 : Int)
 (V.barr (16 : Nat) (zB (hdE b) (gD b)) ::
 List.replicate (nat_lit 0)
 (V.barr (16 : Nat) (List.replicate (16 : Nat) (0 : UInt8))) ++
 (List.take (IntKind.i64.wrap ((↑s.length : Int) - (1 : Int)) + (1 : Int)).toNat
 s).reverse)
 t)])
 else
 bif
 decide
 (IntKind.i64.wrap
 ((↑b.length : Int) +
 (↑(srP
 { nx := zI (hdE b) (gNx b), lf := (↑s.length : Int), fl := (0 : Int), tg := (0 : Int), s := V.barr (16 : Nat) (zB (hdE b) (gD b)) :: List.replicate (nat_lit 0) (V.barr (16 : Nat) (List.replicate (16 : Nat) (0 : UInt8))) ++ (List.take (IntKind.i64.wrap ((↑s.length : Int) - (1 : Int)) + (1 : Int)).toNat s).reverse, t := t }).length :
 Int)) >
 (1500 : Int)) then
 some (V.tup [V.ownv (5 : Nat) (V.bytes []), V.int IntKind.i64 (4 : Int)])
 else
 bif andT true (Am.inB (0 : Int) s.length) && true then
 bif
 andT
 (andT
 (andT true
 (((hdX (zI (hdE b) (gC b)) (zI (hdE b) (gLa b))
 (IntKind.i64.wrap
 (zI (hdE b) (gLn b) +
 (↑(srP
 { nx := zI (hdE b) (gNx b), lf := (↑s.length : Int), fl := (0 : Int), tg := (0 : Int), s := V.barr (16 : Nat) (zB (hdE b) (gD b)) :: List.replicate (nat_lit 0) (V.barr (16 : Nat) (List.replicate (16 : Nat) (0 : UInt8))) ++ (List.take (IntKind.i64.wrap ((↑s.length : Int) - (1 : Int)) + (1 : Int)).toNat s).reverse, t := t }).length :
 Int)))
 (43 : Int) (zI (hdE b) (gHp b)) (zB (hdE b) (gS b))
 (toA (s.getD (0 : Nat) V.undef)) ++
 srP
 { nx := zI (hdE b) (gNx b), lf := (↑s.length : Int), fl := (0 : Int), tg := (0 : Int), s := V.barr (16 : Nat) (zB (hdE b) (gD b)) :: List.replicate (nat_lit 0) (V.barr (16 : Nat) (List.replicate (16 : Nat) (0 : UInt8))) ++ (List.take (IntKind.i64.wrap ((↑s.length : Int) - (1 : Int)) + (1 : Int)).toNat s).reverse, t := t }).length *
 (1 : Nat)).ble
 (140737488355328 : Nat)))
 (Am.inC (40 : Int) b.length))
 (((hdX (zI (hdE b) (gC b)) (zI (hdE b) (gLa b))
 (IntKind.i64.wrap
 (zI (hdE b) (gLn b) +
 (↑(srP
 { nx := zI (hdE b) (gNx b), lf := (↑s.length : Int), fl := (0 : Int), tg := (0 : Int), s := V.barr (16 : Nat) (zB (hdE b) (gD b)) :: List.replicate (nat_lit 0) (V.barr (16 : Nat) (List.replicate (16 : Nat) (0 : UInt8))) ++ (List.take (IntKind.i64.wrap ((↑s.length : Int) - (1 : Int)) + (1 : Int)).toNat s).reverse, t := t }).length :
 Int)))
 (43 : Int) (zI (hdE b) (gHp b)) (zB (hdE b) (gS b))
 (toA (s.getD (0 : Nat) V.undef)) ++
 srP
 { nx := zI (hdE b) (gNx b), lf := (↑s.length : Int), fl := (0 : Int), tg := (0 : Int), s := V.barr (16 : Nat) (zB (hdE b) (gD b)) :: List.replicate (nat_lit 0) (V.barr (16 : Nat) (List.replicate (16 : Nat) (0 : UInt8))) ++ (List.take (IntKind.i64.wrap ((↑s.length : Int) - (1 : Int)) + (1 : Int)).toNat s).reverse, t := t } ++
 cutL b (40 : Nat) b.length).length *
 (1 : Nat)).ble
 (140737488355328 : Nat)) &&
 true then
 some
 (V.tup
 [V.ownv (5 : Nat)
 (V.bytes
 (hdX (zI (hdE b) (gC b)) (zI (hdE b) (gLa b))
 (IntKind.i64.wrap
 (zI (hdE b) (gLn b) +
 (↑(srP
 { nx := zI (hdE b) (gNx b), lf := (↑s.length : Int), fl := (0 : Int), tg := (0 : Int), s := V.barr (16 : Nat) (zB (hdE b) (gD b)) :: List.replicate (nat_lit 0) (V.barr (16 : Nat) (List.replicate (16 : Nat) (0 : UInt8))) ++ (List.take (IntKind.i64.wrap ((↑s.length : Int) - (1 : Int)) + (1 : Int)).toNat s).reverse, t := t }).length :
 Int)))
 (43 : Int) (zI (hdE b) (gHp b)) (zB (hdE b) (gS b))
 (toA (s.getD (0 : Nat) V.undef)) ++
 srP
 { nx := zI (hdE b) (gNx b), lf := (↑s.length : Int), fl := (0 : Int), tg := (0 : Int), s := V.barr (16 : Nat) (zB (hdE b) (gD b)) :: List.replicate (nat_lit 0) (V.barr (16 : Nat) (List.replicate (16 : Nat) (0 : UInt8))) ++ (List.take (IntKind.i64.wrap ((↑s.length : Int) - (1 : Int)) + (1 : Int)).toNat s).reverse, t := t } ++
 cutL b (40 : Nat) b.length)),
 V.int IntKind.i64 (0 : Int)])
 else none
 else none
 else none
 else none
 else
 bif
 decide
 ((1 : Nat) =
 (V.barr (16 : Nat) (zB (hdE b) (gD b)) ::
 List.replicate (nat_lit 0)
 (V.barr (16 : Nat) (List.replicate (16 : Nat) (0 : UInt8)))).length ∧
 (30 : Nat) = (30 : Nat) ∧
 (-1 : Int) ≤ IntKind.i64.wrap ((↑s.length : Int) - (1 : Int)) ∧
 IntKind.i64.wrap ((↑s.length : Int) - (1 : Int)) < (↑s.length : Int) ∧
 s.length ≤ (10 : Nat) ∧
 (↑(V.barr (16 : Nat) (zB (hdE b) (gD b)) ::
 List.replicate (nat_lit 0)
 (V.barr (16 : Nat) (List.replicate (16 : Nat) (0 : UInt8)))).length :
 Int) +
 IntKind.i64.wrap ((↑s.length : Int) - (1 : Int)) ≤
 (100 : Int)) &&
 isB16 s then
 bif
 andT true
 (decide (t.length ≤ (4611686018427387904 : Nat)) &&
 okS
 (V.barr (16 : Nat) (zB (hdE b) (gD b)) ::
 List.replicate (nat_lit 0)
 (V.barr (16 : Nat) (List.replicate (16 : Nat) (0 : UInt8))) ++
 (List.take (IntKind.i64.wrap ((↑s.length : Int) - (1 : Int)) + (1 : Int)).toNat
 s).reverse)) then
 bif
 srC (zI (hdE b) (gNx b)) (↑s.length : Int) (0 : Int) (0 : Int)
 (V.barr (16 : Nat) (zB (hdE b) (gD b)) ::
 List.replicate (nat_lit 0)
 (V.barr (16 : Nat) (List.replicate (16 : Nat) (0 : UInt8))) ++
 (List.take (IntKind.i64.wrap ((↑s.length : Int) - (1 : Int)) + (1 : Int)).toNat
 s).reverse)
 t !=
 (0 : Int) then
 some
 (V.tup
 [V.ownv (5 : Nat) (V.bytes []),
 V.int IntKind.i64
 (srC (zI (hdE b) (gNx b)) (↑s.length : Int) (0 : Int) (0 : Int)
 (V.barr (16 : Nat) (zB (hdE b) (gD b)) ::
 List.replicate (nat_lit 0)
 (V.barr (16 : Nat) (List.replicate (16 : Nat) (0 : UInt8))) ++
 (List.take (IntKind.i64.wrap ((↑s.length : Int) - (1 : Int)) + (1 : Int)).toNat
 s).reverse)
 t)])
 else
 bif
 decide
 (IntKind.i64.wrap
 ((↑b.length : Int) +
 (↑(srP
 { nx := zI (hdE b) (gNx b), lf := (↑s.length : Int), fl := (0 : Int), tg := (0 : Int), s := V.barr (16 : Nat) (zB (hdE b) (gD b)) :: List.replicate (nat_lit 0) (V.barr (16 : Nat) (List.replicate (16 : Nat) (0 : UInt8))) ++ (List.take (IntKind.i64.wrap ((↑s.length : Int) - (1 : Int)) + (1 : Int)).toNat s).reverse, t := t }).length :
 Int)) >
 (1500 : Int)) then
 some (V.tup [V.ownv (5 : Nat) (V.bytes []), V.int IntKind.i64 (4 : Int)])
 else
 bif andT true (Am.inB (0 : Int) s.length) && true then
 bif
 andT
 (andT
 (andT true
 (((hdX (zI (hdE b) (gC b)) (zI (hdE b) (gLa b))
 (IntKind.i64.wrap
 (zI (hdE b) (gLn b) +
 (↑(srP
 { nx := zI (hdE b) (gNx b), lf := (↑s.length : Int), fl := (0 : Int), tg := (0 : Int), s := V.barr (16 : Nat) (zB (hdE b) (gD b)) :: List.replicate (nat_lit 0) (V.barr (16 : Nat) (List.replicate (16 : Nat) (0 : UInt8))) ++ (List.take (IntKind.i64.wrap ((↑s.length : Int) - (1 : Int)) + (1 : Int)).toNat s).reverse, t := t }).length :
 Int)))
 (43 : Int) (zI (hdE b) (gHp b)) (zB (hdE b) (gS b))
 (toA (s.getD (0 : Nat) V.undef)) ++
 srP
 { nx := zI (hdE b) (gNx b), lf := (↑s.length : Int), fl := (0 : Int), tg := (0 : Int), s := V.barr (16 : Nat) (zB (hdE b) (gD b)) :: List.replicate (nat_lit 0) (V.barr (16 : Nat) (List.replicate (16 : Nat) (0 : UInt8))) ++ (List.take (IntKind.i64.wrap ((↑s.length : Int) - (1 : Int)) + (1 : Int)).toNat s).reverse, t := t }).length *
 (1 : Nat)).ble
 (140737488355328 : Nat)))
 (Am.inC (40 : Int) b.length))
 (((hdX (zI (hdE b) (gC b)) (zI (hdE b) (gLa b))
 (IntKind.i64.wrap
 (zI (hdE b) (gLn b) +
 (↑(srP
 { nx := zI (hdE b) (gNx b), lf := (↑s.length : Int), fl := (0 : Int), tg := (0 : Int), s := V.barr (16 : Nat) (zB (hdE b) (gD b)) :: List.replicate (nat_lit 0) (V.barr (16 : Nat) (List.replicate (16 : Nat) (0 : UInt8))) ++ (List.take (IntKind.i64.wrap ((↑s.length : Int) - (1 : Int)) + (1 : Int)).toNat s).reverse, t := t }).length :
 Int)))
 (43 : Int) (zI (hdE b) (gHp b)) (zB (hdE b) (gS b))
 (toA (s.getD (0 : Nat) V.undef)) ++
 srP
 { nx := zI (hdE b) (gNx b), lf := (↑s.length : Int), fl := (0 : Int), tg := (0 : Int), s := V.barr (16 : Nat) (zB (hdE b) (gD b)) :: List.replicate (nat_lit 0) (V.barr (16 : Nat) (List.replicate (16 : Nat) (0 : UInt8))) ++ (List.take (IntKind.i64.wrap ((↑s.length : Int) - (1 : Int)) + (1 : Int)).toNat s).reverse, t := t } ++
 cutL b (40 : Nat) b.length).length *
 (1 : Nat)).ble
 (140737488355328 : Nat)) &&
 true then
 some
 (V.tup
 [V.ownv (5 : Nat)
 (V.bytes
 (hdX (zI (hdE b) (gC b)) (zI (hdE b) (gLa b))
 (IntKind.i64.wrap
 (zI (hdE b) (gLn b) +
 (↑(srP
 { nx := zI (hdE b) (gNx b), lf := (↑s.length : Int), fl := (0 : Int), tg := (0 : Int), s := V.barr (16 : Nat) (zB (hdE b) (gD b)) :: List.replicate (nat_lit 0) (V.barr (16 : Nat) (List.replicate (16 : Nat) (0 : UInt8))) ++ (List.take (IntKind.i64.wrap ((↑s.length : Int) - (1 : Int)) + (1 : Int)).toNat s).reverse, t := t }).length :
 Int)))
 (43 : Int) (zI (hdE b) (gHp b)) (zB (hdE b) (gS b))
 (toA (s.getD (0 : Nat) V.undef)) ++
 srP
 { nx := zI (hdE b) (gNx b), lf := (↑s.length : Int), fl := (0 : Int), tg := (0 : Int), s := V.barr (16 : Nat) (zB (hdE b) (gD b)) :: List.replicate (nat_lit 0) (V.barr (16 : Nat) (List.replicate (16 : Nat) (0 : UInt8))) ++ (List.take (IntKind.i64.wrap ((↑s.length : Int) - (1 : Int)) + (1 : Int)).toNat s).reverse, t := t } ++
 cutL b (40 : Nat) b.length)),
 V.int IntKind.i64 (0 : Int)])
 else none
 else none
 else none
 else none
 else none
 else none := by kernel_rfl

end Go.Proofs.YtbojofchpnfnlaaGreat

namespace Go.Proofs.YtbojofchpnfnlaaGreat
open Go Go.Am Go.RowKit Go.Mix Go.Bas
set_option maxRecDepth 100000
theorem inB_no' {b : List UInt8} {s t : List V} {e : Int} (h : inE b s t = e) (he : e ≠ 0) : inB b s t = [] := inB_no (by rw [h]; exact he)
theorem rDtIns_v (b : List UInt8) (s t : List V) (hb : (decide (b.length ≤ 140737488352000 ∧ t.length ≤ 4611686018427387904) && (isB16 s && okS s)) = true) : callV Edtm af_rDtIns [.bytes b, .rows (.barr 16) s, .rows (.agg [.int .i64, .bytes]) t] = some (.tup [.ownv 5 (.bytes (inB b s t)), .int .i64 (inE b s t)]) := by
  obtain ⟨hl, hS⟩ := (Bool.and_eq_true _ _).mp hb
  obtain ⟨hl, htl⟩ := of_decide_eq_true hl
  obtain ⟨hb16, hok⟩ := (Bool.and_eq_true _ _).mp hS
  rw [rDtIns_t]
  clear hb hS
  by_cases h0 : hdE b = 0
  · have z3 : ∀ x, zI (hdE b) x = x := fun x => if_pos h0
    have z4 : ∀ x, zB (hdE b) x = x := fun x => if_pos h0
    have eM : ∀ (x y : V), x :: List.replicate (nat_lit 0) y = [x] := fun _ _ => rfl
    have rE : ∀ x y : Int, rwE b x y 0 = wkE b x y := fun _ _ => rfl
    have rV : ∀ x y : Int, rwV b x y 0 = wkV b x y := fun _ _ => rfl
    simp only [z3, z4, eM, rE, rV, cutL_all, Nat.mul_one]
    by_cases h1 : gNx b = 43
    · have e : inE b s t = 7 := by unfold inE; rw [if_neg (by simpa using h0), if_pos (.inl h1)]
      rw [e, inB_no' e (by decide)]
      simp (disch := omega) only [dec_t, dec_f, inB_t, inC_t, andT_t, cond_true, cond_false, Bool.and_true, Bool.true_and, w64, wu32, wu8, nble_t, nblt_t, Bool.not_true, Bool.not_false, Bool.not_not, ieq_t, ieq_f, ine_t, ine_f, true_and, and_true, andT_l]
    · by_cases h2 : gNx b = 0
      · have e : inE b s t = 7 := by unfold inE; rw [if_neg (by simpa using h0), if_pos (.inr h2)]
        rw [e, inB_no' e (by decide)]
        simp (disch := omega) only [dec_t, dec_f, inB_t, inC_t, andT_t, cond_true, cond_false, Bool.and_true, Bool.true_and, w64, wu32, wu8, nble_t, nblt_t, Bool.not_true, Bool.not_false, Bool.not_not, ieq_t, ieq_f, ine_t, ine_f, true_and, and_true, andT_l]
      · by_cases h3 : s.length = 0 ∨ 9 < s.length
        · have e : inE b s t = 8 := by unfold inE; rw [if_neg (by simpa using h0), if_neg (by omega), if_pos h3]
          rw [e, inB_no' e (by decide)]
          rcases h3 with h3 | h3
          · simp (disch := omega) only [dec_t, dec_f, inB_t, inC_t, andT_t, cond_true, cond_false, Bool.and_true, Bool.true_and, w64, wu32, wu8, nble_t, nblt_t, Bool.not_true, Bool.not_false, Bool.not_not, ieq_t, ieq_f, ine_t, ine_f, true_and, and_true, andT_l]
          · simp (disch := omega) only [dec_t, dec_f, inB_t, inC_t, andT_t, cond_true, cond_false, Bool.and_true, Bool.true_and, w64, wu32, wu8, nble_t, nblt_t, Bool.not_true, Bool.not_false, Bool.not_not, ieq_t, ieq_f, ine_t, ine_f, true_and, and_true, andT_l]
        · have h4 : 0 < s.length := by omega
          have h5 : s.length ≤ 9 := by omega
          have ew : IntKind.i64.wrap ((s.length : Int) - 1) = (s.length : Int) - 1 := w64 (by omega) (by omega)
          have ex : ((s.length : Int) - 1 + 1).toNat = s.length := by omega
          have eV : [V.barr 16 (gD b)] ++ s.reverse = viaR b s := by simp [viaR]
          have eC : srC (gNx b) (s.length : Int) 0 0 (viaR b s) t = inC0 b s t := rfl
          have eX : srP ⟨gNx b, (s.length : Int), 0, 0, viaR b s, t⟩ = inX b s t := rfl
          have hO : okS (viaR b s) = true := okS_app (x := gD b) hok (gD_16 b)
          have h1l : [V.barr 16 (gD b)].length = 1 := rfl
          simp only [ew, ex, List.take_length, eV, eC, eX, hb16, hO, h1l, Bool.and_true]
          have hX := inX_len b s t
          have h40 := gE_40 (hdE_zero h0).1
          have hln := (hdE_zero h0).2
          rw [hln]
          clear eM ew ex eV eC eX hO hb16 hok h1l z3 z4 rE rV
          have hxw : IntKind.i64.wrap ((b.length : Int) - 40 + ((inX b s t).length : Int)) = ((inX b s t).length : Int) + ((b.length : Int) - 40) := by rw [w64 (by omega) (by omega)]; omega
          rw [hxw]
          have hg := hdX_len (gC b) (gLa b) (((inX b s t).length : Int) + ((b.length : Int) - 40)) 43 (gHp b) (gS b) (toA (s.getD 0 .undef))
          have hg1 : (hdX (gC b) (gLa b) (((inX b s t).length : Int) + ((b.length : Int) - 40)) 43 (gHp b) (gS b) (toA (s.getD 0 .undef)) ++ inX b s t).length ≤ 140737488355328 := by rw [List.length_append]; omega
          have hg2 : (hdX (gC b) (gLa b) (((inX b s t).length : Int) + ((b.length : Int) - 40)) 43 (gHp b) (gS b) (toA (s.getD 0 .undef)) ++ inX b s t ++ b.drop 40).length ≤ 140737488355328 := by rw [List.length_append, List.length_append, List.length_drop]; omega
          by_cases h6 : wkE b (gNx b) 40 = 0
          · by_cases h7 : 8 < (wkV b (gNx b) 40).length
            · have e : inE b s t = 8 := by unfold inE; rw [if_neg (by simpa using h0), if_neg (by omega), if_neg h3, if_pos ⟨h6, h7⟩]
              rw [e, inB_no' e (by decide)]
              simp (disch := omega) only [dec_t, dec_f, inB_t, inC_t, andT_t, cond_true, cond_false, Bool.and_true, Bool.true_and, w64, wu32, wu8, nble_t, nblt_t, Bool.not_true, Bool.not_false, Bool.not_not, ieq_t, ieq_f, ine_t, ine_f, true_and, and_true, andT_l]
            · by_cases h8 : inC0 b s t = 0
              · by_cases h9 : 1500 < b.length + (inX b s t).length
                · have e : inE b s t = 4 := by unfold inE; rw [if_neg (by simpa using h0), if_neg (by omega), if_neg h3, if_neg (fun h => h7 h.2), if_neg (by simpa using h8), if_pos h9]
                  rw [e, inB_no' e (by decide)]
                  simp (disch := omega) only [dec_t, dec_f, inB_t, inC_t, andT_t, cond_true, cond_false, Bool.and_true, Bool.true_and, w64, wu32, wu8, nble_t, nblt_t, Bool.not_true, Bool.not_false, Bool.not_not, ieq_t, ieq_f, ine_t, ine_f, true_and, and_true, andT_l]
                · have e : inE b s t = 0 := by unfold inE; rw [if_neg (by simpa using h0), if_neg (by omega), if_neg h3, if_neg (fun h => h7 h.2), if_neg (by simpa using h8), if_neg h9]
                  unfold inB
                  rw [e, if_pos rfl, ← List.append_assoc]
                  simp (disch := omega) only [dec_t, dec_f, inB_t, inC_t, andT_t, cond_true, cond_false, Bool.and_true, Bool.true_and, w64, wu32, wu8, nble_t, nblt_t, Bool.not_true, Bool.not_false, Bool.not_not, ieq_t, ieq_f, ine_t, ine_f, true_and, and_true, andT_l]
              · have e : inE b s t = inC0 b s t := by unfold inE; rw [if_neg (by simpa using h0), if_neg (by omega), if_neg h3, if_neg (fun h => h7 h.2), if_pos h8]
                rw [e, inB_no' e h8]
                simp (disch := omega) only [dec_t, dec_f, inB_t, inC_t, andT_t, cond_true, cond_false, Bool.and_true, Bool.true_and, w64, wu32, wu8, nble_t, nblt_t, Bool.not_true, Bool.not_false, Bool.not_not, ieq_t, ieq_f, ine_t, ine_f, true_and, and_true, andT_l]
          · by_cases h8 : inC0 b s t = 0
            · by_cases h9 : 1500 < b.length + (inX b s t).length
              · have e : inE b s t = 4 := by unfold inE; rw [if_neg (by simpa using h0), if_neg (by omega), if_neg h3, if_neg (fun h => h6 h.1), if_neg (by simpa using h8), if_pos h9]
                rw [e, inB_no' e (by decide)]
                simp (disch := omega) only [dec_t, dec_f, inB_t, inC_t, andT_t, cond_true, cond_false, Bool.and_true, Bool.true_and, w64, wu32, wu8, nble_t, nblt_t, Bool.not_true, Bool.not_false, Bool.not_not, ieq_t, ieq_f, ine_t, ine_f, true_and, and_true, andT_l]
              · have e : inE b s t = 0 := by unfold inE; rw [if_neg (by simpa using h0), if_neg (by omega), if_neg h3, if_neg (fun h => h6 h.1), if_neg (by simpa using h8), if_neg h9]
                unfold inB
                rw [e, if_pos rfl, ← List.append_assoc]
                simp (disch := omega) only [dec_t, dec_f, inB_t, inC_t, andT_t, cond_true, cond_false, Bool.and_true, Bool.true_and, w64, wu32, wu8, nble_t, nblt_t, Bool.not_true, Bool.not_false, Bool.not_not, ieq_t, ieq_f, ine_t, ine_f, true_and, and_true, andT_l]
            · have e : inE b s t = inC0 b s t := by unfold inE; rw [if_neg (by simpa using h0), if_neg (by omega), if_neg h3, if_neg (fun h => h6 h.1), if_pos h8]
              rw [e, inB_no' e h8]
              simp (disch := omega) only [dec_t, dec_f, inB_t, inC_t, andT_t, cond_true, cond_false, Bool.and_true, Bool.true_and, w64, wu32, wu8, nble_t, nblt_t, Bool.not_true, Bool.not_false, Bool.not_not, ieq_t, ieq_f, ine_t, ine_f, true_and, and_true, andT_l]
  · have e : inE b s t = hdE b := by unfold inE; rw [if_pos h0]
    rw [e, inB_no' e h0]
    simp (disch := omega) only [dec_t, dec_f, inB_t, inC_t, andT_t, cond_true, cond_false, Bool.and_true, Bool.true_and, w64, wu32, wu8, nble_t, nblt_t, Bool.not_true, Bool.not_false, Bool.not_not, ieq_t, ieq_f, ine_t, ine_f, true_and, and_true, andT_l]
theorem rDtIns_con : ∀ vs v, cIns vs = some (v, true) → SpecV Tryz.prog 23 vs v := by
  intro vs v h; unfold cIns at h; split at h
  · rename_i b s t
    injection h with h; injection h with h hb; subst h
    exact callV_ok Edtm_ok af_rDtIns_ok (rDtIns_v b s t hb)
  · cases h
end Go.Proofs.YtbojofchpnfnlaaGreat

namespace Go.Proofs.YtbojofchpnfnlaaGreat
open Go Go.Am Go.RowKit Go.Mix Go.Bas
set_option maxRecDepth 100000
end Go.Proofs.YtbojofchpnfnlaaGreat

namespace Go.Proofs.YtbojofchpnfnlaaGreat
open Go Go.Am Go.RowKit Go.Mix Go.Bas
set_option maxRecDepth 100000
end Go.Proofs.YtbojofchpnfnlaaGreat

namespace Go.Proofs.YtbojofchpnfnlaaGreat
open Go Go.Am Go.RowKit Go.Mix Go.Bas
set_option maxRecDepth 100000
theorem isB16_of {M : Nat} {s : List V} (h : ∀ y ∈ s, inR M (.barr 16) y = true) : isB16 s = true := by
  refine List.all_eq_true.2 fun v hv => ?_
  obtain ⟨l, rfl, _⟩ := inR_barr (h v hv)
  rfl
end Go.Proofs.YtbojofchpnfnlaaGreat
