/- Part Gt of the proof: laws used by the law of this claim. -/
import Derived.Test.YtbojofchpnfnlaaGs
set_option linter.all false
namespace Go.Proofs.Ytbojofchpnfnlaa
open Go Go.Am Go.RowKit Go.Mix Go.Bas
set_option maxRecDepth 100000
theorem inC_idle (p q : Addr) (w : World) (hq : w.cell? q = some (.int .i64 0)) (hz : w.frozen? q = false) :
    CallsD Try.prog 83 #[.pointer (some q), .pointer (some p)] .returning w fun e u' w' => e = .returned (.tuple #[]) ∧ u' = .returning ∧ w' = (w.setCell q (.int .i64 0)).drew := by
  refine callsD_of_wpS Try.func83 rfl fun c₀ cs hu => ?_
  apply wpS_seq
  refine wpS_region_draw fun t => ?_
  rw [show Try.prog.follows .mixedOrders = true by kernel_rfl]
  rcases lin4 (by kernel_rfl) (by kernel_rfl) (by kernel_rfl) (by kernel_rfl) (by kernel_rfl) (by kernel_rfl) t with h | h
  all_goals
    rw [h]
    clear h
    simp [wpOpsS, go_sem, recoverD, hu, Try.ntmps83, Exit.thenS, hq, hz]
    refine (caught_nil _ _).mono ?_
    rintro e w' ⟨rfl, rfl⟩
    simp [go_sem, hq, hz]
    apply wpS_seq
    apply wpS_region
    simp [wpOpsS, go_sem, Exit.thenS, hq, hz]
    refine wpS_cond (t := false) (by simp [Act.eval, Array.replicate]) ?_
    simp only [Bool.false_eq_true, if_false]
    refine wpS_of_wp (wp_skip ?_)
    cases c₀
    simp_all [bodyPostS, results, Try.results83]
theorem inC_pan (p q : Addr) (x : Int) (hx : x ≠ 0) (w : World) (y : Value) (hq : w.cell? q = some (.int .i64 0)) (hz : w.frozen? q = false) (hp : w.cell? p = some y) (hzp : w.frozen? p = false) (hpq : p.block ≠ q.block) :
    CallsD Try.prog 83 #[.pointer (some q), .pointer (some p)] (.panicking [{ v := .iface 29 (.int .i64 x), recovered := false }]) w fun e u' w' => e = .returned (.tuple #[]) ∧ u' = .panicking [{ v := .iface 29 (.int .i64 x), recovered := true }] ∧ w' = ((w.setCell q (.int .i64 x)).setCell p (.slice none 0 0)).drew := by
  refine callsD_of_wpS Try.func83 rfl fun c₀ cs hu => ?_
  apply wpS_seq
  refine wpS_region_draw fun t => ?_
  rw [show Try.prog.follows .mixedOrders = true by kernel_rfl]
  rcases lin4 (by kernel_rfl) (by kernel_rfl) (by kernel_rfl) (by kernel_rfl) (by kernel_rfl) (by kernel_rfl) t with h | h
  all_goals
    rw [h]
    clear h
    simp [wpOpsS, go_sem, recoverD, hu, Try.ntmps83, Exit.thenS, hq, hz]
    refine (caught_ifc _ _ _).mono ?_
    rintro e w' ⟨rfl, rfl⟩
    simp [go_sem, hq, hz]
    apply wpS_seq
    apply wpS_region
    simp [wpOpsS, go_sem, Exit.thenS, hq, hz]
    refine wpS_cond (t := true) (by simp [Act.eval, Array.replicate, hx]) ?_
    simp only [if_true]
    apply wpS_region
    have hp' : (w.setCell q (.int .i64 x)).cell? p = some y := (World.cell?_of_block (w := w) (Below.heap_setCell w q _ p.block hpq)).trans hp
    have hzp' : (w.setCell q (.int .i64 x)).frozen? p = false := by rw [World.frozen?_setCell]; exact hzp
    simp [wpOpsS, go_sem, hq, hz, hp', hzp', bodyPostS, results, Try.results83]
def cIns : List V → Option (V × Bool)
  | [.bytes b, .rows (.barr 16) s, .rows (.agg [.int .i64, .bytes]) t] => some (.tup [.ownv 5 (.bytes (inB b s t)), .int .i64 (inE b s t)], (decide (b.length ≤ 140737488352000 ∧ t.length ≤ 4611686018427387904) && (isB16 s && okS s)))
  | _ => none
theorem inB_no {b : List UInt8} {s t : List V} (h : inE b s t ≠ 0) : inB b s t = [] := if_neg h
theorem dtIns2_con : ∀ vs v, cIns vs = some (v, true) → SpecV Try.prog 33 vs v := by
  intro vs v h; unfold cIns at h; split at h
  · rename_i b s t
    injection h with h; injection h with h hb; subst h
    intro O w cs hO hv
    obtain ⟨a, a2, a3, rfl, ha, ha2, ha3⟩ := hv.three_inv
    show Calls Try.prog 33 #[a, a2, a3] w _
    have hmf : ∀ (fn : Fn) (first cap : Array Value) (w : World), (Instr.makeFunc fn first cap).run Try.prog w = .ok (.func fn first cap) w := fun _ _ _ _ => rfl
    go_enter_defers Try.func33, Try.ntmps33
    go_wp2_with fail
    generalize hW : ((w.alloc (Obj.cells #[Value.slice none 0 0] 24)).alloc (Obj.cells #[Value.int IntKind.i64 0] 29)) = W
    have hbw : Below w.heap.size w W := by rw [← hW]; exact ((Below.refl _ _).alloc (Nat.le_refl _) _).alloc (by simp) _
    have hWs : W.heap.size = w.heap.size + 2 := by rw [← hW]; simp
    have p0 : W.cell? ⟨w.heap.size, 0, none⟩ = some (.slice none 0 0) := by rw [← hW]; simp [go_sem]
    have p1 : W.cell? ⟨w.heap.size + 1, 0, none⟩ = some (.int .i64 0) := by rw [← hW]; simp [go_sem]
    have p2 : W.frozen? ⟨w.heap.size, 0, none⟩ = false := by rw [← hW]; simp [go_sem]
    have p3 : W.frozen? ⟨w.heap.size + 1, 0, none⟩ = false := by rw [← hW]; simp [go_sem]
    clear hW
    have hv2 : VReps no O W [V.bytes b, V.rows (.barr 16) s, V.rows (.agg [.int .i64, .bytes]) t] [a, a2, a3] := hv.ext (Ext.mk (by omega) (fun _ _ e => e) (fun g hg _ => hbw.block g hg) fun g hg => .inl hg)
    have hO2 : ∀ g, O g → g < W.heap.size := fun g hg => by have := hO g hg; omega
    have hbd := hb
    by_cases h0 : inE b s t = 0
    · have hs : SpecP Try.prog 85 [V.bytes b, V.rows (.barr 16) s, V.rows (.agg [.int .i64, .bytes]) t] (.inl (.ownv 5 (.bytes (inB b s t)))) := dtIns_pcon _ _ (by show PTo (.br (decide (b.length ≤ 140737488352000 ∧ t.length ≤ 4611686018427387904) && (isB16 s && okS s)) (.br (inE b s t == 0) _ _) _) _; rw [hbd, h0]; exact .t (.t .val))
      refine (hs O W [a, a2, a3] hO2 hv2).mono ?_
      rintro e w3 ⟨hbl, c, rfl, hout⟩
      obtain ⟨A, n, k, rfl, hown⟩ := out_bytes hout
      have q0 : w3.cell? ⟨w.heap.size, 0, none⟩ = some (.slice none 0 0) := by rw [hbl.cell (by simp; omega)]; exact p0
      have q1 : w3.cell? ⟨w.heap.size + 1, 0, none⟩ = some (.int .i64 0) := by rw [hbl.cell (by simp; omega)]; exact p1
      have q2 : w3.frozen? ⟨w.heap.size, 0, none⟩ = false := by rw [hbl.frozen (by simp; omega)]; exact p2
      have q3 : w3.frozen? ⟨w.heap.size + 1, 0, none⟩ = false := by rw [hbl.frozen (by simp; omega)]; exact p3
      go_wp2
      refine leaves_cons (f := 83) (args := #[.pointer (some ⟨w.heap.size + 1, 0, none⟩), .pointer (some ⟨w.heap.size, 0, none⟩)]) (by simp) (by simp [go_sem]) ?_
      refine (inC_idle ⟨w.heap.size, 0, none⟩ ⟨w.heap.size + 1, 0, none⟩ _ (World.cell?_setCell_same' _ _ _ (by simp [go_sem, q1])) (by simp [go_sem, q3])).mono ?_
      rintro e u' w'' ⟨rfl, rfl, rfl⟩
      simp only [Leaves, settle]
      have ho4 : Go.Bas.Own ((((w3.setCell ⟨w.heap.size, 0, none⟩ (.slice A n k)).setCell ⟨w.heap.size + 1, 0, none⟩ (.int .i64 0)).setCell ⟨w.heap.size + 1, 0, none⟩ (.int .i64 0)).drew) W.heap.size 5 A n k (inB b s t) := (((hown.far (by show w.heap.size < _; omega) _).far (by show w.heap.size + 1 < _; omega) _).far (by show w.heap.size + 1 < _; omega) _).step (Below.refl _ _).drew
      have hb4 : Below w.heap.size w ((((w3.setCell ⟨w.heap.size, 0, none⟩ (.slice A n k)).setCell ⟨w.heap.size + 1, 0, none⟩ (.int .i64 0)).setCell ⟨w.heap.size + 1, 0, none⟩ (.int .i64 0)).drew) := ((((hbw.trans (hbl.mono (by omega))).setCell (by show w.heap.size ≤ w.heap.size; omega) _).setCell (by show w.heap.size ≤ w.heap.size + 1; omega) _).setCell (by show w.heap.size ≤ w.heap.size + 1; omega) _).drew
      have k3 : ((((w3.setCell ⟨w.heap.size, 0, none⟩ (.slice A n k)).setCell ⟨w.heap.size + 1, 0, none⟩ (.int .i64 0)).setCell ⟨w.heap.size + 1, 0, none⟩ (.int .i64 0))).cell? ⟨w.heap.size + 1, 0, none⟩ = some (.int .i64 0) := World.cell?_setCell_same' _ _ _ (by rw [World.cell?_setCell_same' _ _ _ (by simp [go_sem, q1])]; rfl)
      refine ⟨.tuple #[.slice A n k, .int .i64 0], by simp [results, Try.results33, go_sem, q0, q1, k3], hb4, _, rfl, ?_⟩
      rw [h0]
      exact out_rowInt ho4 (by omega)
    · have hs : SpecP Try.prog 85 [V.bytes b, V.rows (.barr 16) s, V.rows (.agg [.int .i64, .bytes]) t] (.inr (pnc (inE b s t))) := dtIns_pcon _ _ (by show PTo (.br (decide (b.length ≤ 140737488352000 ∧ t.length ≤ 4611686018427387904) && (isB16 s && okS s)) (.br (inE b s t == 0) _ _) _) _; rw [hbd, show (inE b s t == 0) = false by simpa using h0]; exact .t (.f .pan))
      refine (hs O W [a, a2, a3] hO2 hv2).mono ?_
      rintro e w3 ⟨hbl, rfl⟩
      have q0 : w3.cell? ⟨w.heap.size, 0, none⟩ = some (.slice none 0 0) := by rw [hbl.cell (by simp; omega)]; exact p0
      have q1 : w3.cell? ⟨w.heap.size + 1, 0, none⟩ = some (.int .i64 0) := by rw [hbl.cell (by simp; omega)]; exact p1
      have q2 : w3.frozen? ⟨w.heap.size, 0, none⟩ = false := by rw [hbl.frozen (by simp; omega)]; exact p2
      have q3 : w3.frozen? ⟨w.heap.size + 1, 0, none⟩ = false := by rw [hbl.frozen (by simp; omega)]; exact p3
      go_wp2
      refine leaves_cons (f := 83) (args := #[.pointer (some ⟨w.heap.size + 1, 0, none⟩), .pointer (some ⟨w.heap.size, 0, none⟩)]) (by simp) (by simp [go_sem]) ?_
      refine (inC_pan ⟨w.heap.size, 0, none⟩ ⟨w.heap.size + 1, 0, none⟩ (inE b s t) h0 _ _ q1 q3 q0 q2 (by simp)).mono ?_
      rintro e u' w'' ⟨rfl, rfl, rfl⟩
      show ∃ v, _ ∧ _
      have hb4 : Below w.heap.size w ((w3.setCell ⟨w.heap.size + 1, 0, none⟩ (.int .i64 (inE b s t))).setCell ⟨w.heap.size, 0, none⟩ (.slice none 0 0)).drew := (((hbw.trans (hbl.mono (by omega))).setCell (by show w.heap.size ≤ w.heap.size + 1; omega) _).setCell (by show w.heap.size ≤ w.heap.size; omega) _).drew
      refine ⟨.tuple #[.slice none 0 0, .int .i64 (inE b s t)], by simp [results, Try.results33, go_sem, q0, q1], hb4, _, rfl, ?_⟩
      rw [inB_no h0]
      exact out_rowInt (Go.Bas.Own.nil _ _ _) (Nat.le_refl _)
  · cases h
end Go.Proofs.Ytbojofchpnfnlaa

namespace Go.Proofs.Ytbojofchpnfnlaa
open Go Go.Am Go.RowKit Go.Mix Go.Bas
set_option maxRecDepth 100000
noncomputable def af_rDtHead : AF := afOf Try.prog Try.f86 []
theorem af_rDtHead_ok : AllOk Try.prog 86 af_rDtHead := .flat Try.func86 (by kernel_rfl) (by kernel_rfl) (by kernel_rfl) (by kernel_rfl) (by kernel_rfl)
noncomputable def GEdti : List (Nat × Con) := [(42, .val [.bytes] cSxGet)]
theorem GEdti_ok : GOk Try.prog GEdti := .cons (enters_of Try.func42 (by kernel_rfl) rfl) rSxGet_con <| .nil
noncomputable def IEdti : List (Nat × AF) := []
theorem IEdti_ok : IOk Try.prog IEdti := .nil
noncomputable def CEdti : List (Nat × (List Nat × (S → Option S))) := []
theorem CEdti_ok : COk Try.prog CEdti := .nil
noncomputable def XEdti : List (Nat × (List Sh × (List V → PT))) := []
theorem XEdti_ok : XOk Try.prog XEdti := .nil
noncomputable def Edti : Env := ⟨Try.prog, GEdti, IEdti, CEdti, XEdti⟩
theorem Edti_ok : EnvOk Edti := ⟨by kernel_rfl, GEdti_ok, IEdti_ok, CEdti_ok, XEdti_ok⟩
theorem rDtHead_t (b : List UInt8) : callV Edti af_rDtHead [.bytes b] =
 bif gE b == (0 : Int) then
 bif gLn b != IntKind.i64.wrap ((↑b.length : Int) - (40 : Int)) then
 some
 (V.tup
 [V.agg
 [V.int IntKind.i64 (0 : Int), V.int IntKind.i64 (0 : Int), V.int IntKind.i64 (0 : Int),
 V.int IntKind.i64 (0 : Int), V.int IntKind.i64 (0 : Int),
 V.barr (16 : Nat) (List.replicate (16 : Nat) (0 : UInt8)),
 V.barr (16 : Nat) (List.replicate (16 : Nat) (0 : UInt8))],
 V.int IntKind.i64 (5 : Int)])
 else
 some
 (V.tup
 [V.agg
 [V.int IntKind.i64 (gC b), V.int IntKind.i64 (gLa b), V.int IntKind.i64 (gLn b),
 V.int IntKind.i64 (gNx b), V.int IntKind.i64 (gHp b), V.barr (16 : Nat) (gS b),
 V.barr (16 : Nat) (gD b)],
 V.int IntKind.i64 (gE b)])
 else
 some
 (V.tup
 [V.agg
 [V.int IntKind.i64 (gC b), V.int IntKind.i64 (gLa b), V.int IntKind.i64 (gLn b), V.int IntKind.i64 (gNx b),
 V.int IntKind.i64 (gHp b), V.barr (16 : Nat) (gS b), V.barr (16 : Nat) (gD b)],
 V.int IntKind.i64 (gE b)]) := by kernel_rfl

def zB (e : Int) (l : List UInt8) : List UInt8 := if e = 0 then l else List.replicate 16 0
def cRHead : List V → Option (V × Bool)
  | [.bytes b] => some (.tup [.agg [.int .i64 (zI (hdE b) (gC b)), .int .i64 (zI (hdE b) (gLa b)), .int .i64 (zI (hdE b) (gLn b)), .int .i64 (zI (hdE b) (gNx b)), .int .i64 (zI (hdE b) (gHp b)), .barr 16 (zB (hdE b) (gS b)), .barr 16 (zB (hdE b) (gD b))], .int .i64 (hdE b)], decide (b.length ≤ 140737488355328))
  | _ => none
theorem rDtHead_v (b : List UInt8) (h : b.length ≤ 140737488355328) : callV Edti af_rDtHead [.bytes b] = some (.tup [.agg [.int .i64 (zI (hdE b) (gC b)), .int .i64 (zI (hdE b) (gLa b)), .int .i64 (zI (hdE b) (gLn b)), .int .i64 (zI (hdE b) (gNx b)), .int .i64 (zI (hdE b) (gHp b)), .barr 16 (zB (hdE b) (gS b)), .barr 16 (zB (hdE b) (gD b))], .int .i64 (hdE b)]) := by
  rw [rDtHead_t, w64 (by omega) (by omega)]
  by_cases h0 : gE b = 0
  · by_cases h1 : gLn b = (b.length : Int) - 40
    · have e : hdE b = 0 := by unfold hdE; rw [if_pos h0, if_pos h1]
      rw [e]
      simp (disch := omega) only [dec_t, dec_f, inB_t, inC_t, andT_t, cond_true, cond_false, Bool.and_true, Bool.true_and, w64, wu32, wu8, nble_t, nblt_t, Bool.not_true, Bool.not_false, Bool.not_not, ieq_t, ieq_f, ine_t, ine_f, true_and, and_true, andT_l]
      first | rfl | (rw [h0]; rfl)
    · have e : hdE b = 5 := by unfold hdE; rw [if_pos h0, if_neg h1]
      rw [e]
      simp (disch := omega) only [dec_t, dec_f, inB_t, inC_t, andT_t, cond_true, cond_false, Bool.and_true, Bool.true_and, w64, wu32, wu8, nble_t, nblt_t, Bool.not_true, Bool.not_false, Bool.not_not, ieq_t, ieq_f, ine_t, ine_f, true_and, and_true, andT_l]
      rfl
  · have e : hdE b = gE b := by unfold hdE; rw [if_neg h0]
    rw [e]
    have g1 : ∀ x, gz b x = 0 := fun x => if_neg h0
    have g2 : ∀ x, gzb b x = List.replicate 16 0 := fun x => if_neg h0
    have z1 : ∀ x, zI (gE b) x = 0 := fun x => if_neg h0
    have z2 : ∀ x, zB (gE b) x = List.replicate 16 0 := fun x => if_neg h0
    simp only [gC, gLa, gLn, gNx, gHp, gS, gD, g1, g2, z1, z2]
    simp (disch := omega) only [dec_t, dec_f, inB_t, inC_t, andT_t, cond_true, cond_false, Bool.and_true, Bool.true_and, w64, wu32, wu8, nble_t, nblt_t, Bool.not_true, Bool.not_false, Bool.not_not, ieq_t, ieq_f, ine_t, ine_f, true_and, and_true, andT_l]
theorem rDtHead_con : ∀ vs v, cRHead vs = some (v, true) → SpecV Try.prog 86 vs v := by
  intro vs v h; unfold cRHead at h; split at h
  · rename_i b
    injection h with h; injection h with h hb; subst h
    exact callV_ok Edti_ok af_rDtHead_ok (rDtHead_v b (of_decide_eq_true hb))
  · cases h
noncomputable def af_rDtHdr : AF := afOf Try.prog Try.f37 []
theorem af_rDtHdr_ok : AllOk Try.prog 37 af_rDtHdr := .flat Try.func37 (by kernel_rfl) (by kernel_rfl) (by kernel_rfl) (by kernel_rfl) (by kernel_rfl)
noncomputable def GEdtk : List (Nat × Con) := [(86, .val [.bytes] cRHead), (94, .val [.bytes] cSrhPar2)]
theorem GEdtk_ok : GOk Try.prog GEdtk := .cons (enters_of Try.func86 (by kernel_rfl) rfl) rDtHead_con <| .cons (enters_of Try.func94 (by kernel_rfl) rfl) rSrhPar2_con <| .nil
noncomputable def IEdtk : List (Nat × AF) := []
theorem IEdtk_ok : IOk Try.prog IEdtk := .nil
noncomputable def CEdtk : List (Nat × (List Nat × (S → Option S))) := []
theorem CEdtk_ok : COk Try.prog CEdtk := .nil
noncomputable def XEdtk : List (Nat × (List Sh × (List V → PT))) := []
theorem XEdtk_ok : XOk Try.prog XEdtk := .nil
noncomputable def Edtk : Env := ⟨Try.prog, GEdtk, IEdtk, CEdtk, XEdtk⟩
theorem Edtk_ok : EnvOk Edtk := ⟨by kernel_rfl, GEdtk_ok, IEdtk_ok, CEdtk_ok, XEdtk_ok⟩
theorem rDtHdr_t (b : List UInt8) : callV Edtk af_rDtHdr [.bytes b] =
 bif andT true (decide (b.length ≤ (140737488355328 : Nat))) then
 bif hdE b != (0 : Int) then
 some
 (V.tup
 [V.agg
 [V.int IntKind.i64 (0 : Int), V.int IntKind.i64 (0 : Int), V.int IntKind.i64 (0 : Int),
 V.int IntKind.i64 (0 : Int), V.rows (Sh.barr (16 : Nat)) [],
 V.rows (Sh.agg [Sh.int IntKind.i64, Sh.bytes]) []],
 V.int IntKind.i64 (0 : Int), V.int IntKind.i64 (hdE b)])
 else
 bif zI (hdE b) (gNx b) != (43 : Int) then
 some
 (V.tup
 [V.agg
 [V.int IntKind.i64 (0 : Int), V.int IntKind.i64 (0 : Int), V.int IntKind.i64 (0 : Int),
 V.int IntKind.i64 (0 : Int), V.rows (Sh.barr (16 : Nat)) [],
 V.rows (Sh.agg [Sh.int IntKind.i64, Sh.bytes]) []],
 V.int IntKind.i64 (0 : Int), V.int IntKind.i64 (7 : Int)])
 else
 bif
 andT (andT true (Am.inC (40 : Int) b.length))
 (decide ((cutL b (40 : Nat) b.length).length ≤ (140737488355328 : Nat))) then
 some
 (V.tup
 [V.agg
 [V.int IntKind.i64 (sN (cutL b (40 : Nat) b.length)),
 V.int IntKind.i64 (sL (cutL b (40 : Nat) b.length)),
 V.int IntKind.i64 (sF (cutL b (40 : Nat) b.length)),
 V.int IntKind.i64 (sT (cutL b (40 : Nat) b.length)),
 V.rows (Sh.barr (16 : Nat)) (sS (cutL b (40 : Nat) b.length)),
 V.rows (Sh.agg [Sh.int IntKind.i64, Sh.bytes]) (sP (cutL b (40 : Nat) b.length))],
 V.int IntKind.i64 (sZ (cutL b (40 : Nat) b.length)),
 V.int IntKind.i64 (shE (cutL b (40 : Nat) b.length))])
 else none
 else none := by kernel_rfl

theorem rDtHdr_v (b : List UInt8) (h : b.length ≤ 140737488352000) : callV Edtk af_rDtHdr [.bytes b] = some (.tup [.agg [.int .i64 (zI (rtE b) (sN (b.drop 40))), .int .i64 (zI (rtE b) (sL (b.drop 40))), .int .i64 (zI (rtE b) (sF (b.drop 40))), .int .i64 (zI (rtE b) (sT (b.drop 40))), .rows (.barr 16) (zV (rtE b) (sS (b.drop 40))), .rows (.agg [.int .i64, .bytes]) (zV (rtE b) (sP (b.drop 40)))], .int .i64 (zI (rtE b) (sZ (b.drop 40))), .int .i64 (rtE b)]) := by
  rw [rDtHdr_t, cutL_all]
  have hd : (b.drop 40).length ≤ b.length := by rw [List.length_drop]; omega
  by_cases h0 : hdE b = 0
  · have h40 := gE_40 (hdE_zero h0).1
    have z0 : zI (hdE b) (gNx b) = gNx b := if_pos h0
    rw [z0]
    by_cases h1 : gNx b = 43
    · have e : rtE b = shE (b.drop 40) := by unfold rtE; rw [if_pos h0, if_pos h1]
      rw [e]
      by_cases h2 : shE (b.drop 40) = 0
      · have z1 : ∀ x, zI (shE (b.drop 40)) x = x := fun x => if_pos h2
        have z2 : ∀ x, zV (shE (b.drop 40)) x = x := fun x => if_pos h2
        simp only [z1, z2]
        simp (disch := omega) only [dec_t, dec_f, inB_t, inC_t, andT_t, cond_true, cond_false, Bool.and_true, Bool.true_and, w64, wu32, wu8, nble_t, nblt_t, Bool.not_true, Bool.not_false, Bool.not_not, ieq_t, ieq_f, ine_t, ine_f, true_and, and_true, andT_l]
      · have z1 : ∀ x, zI (shE (b.drop 40)) x = 0 := fun x => if_neg h2
        have z2 : ∀ x, zV (shE (b.drop 40)) x = [] := fun x => if_neg h2
        simp only [sN, sL, sF, sT, sS, sP, sZ, z1, z2]
        simp (disch := omega) only [dec_t, dec_f, inB_t, inC_t, andT_t, cond_true, cond_false, Bool.and_true, Bool.true_and, w64, wu32, wu8, nble_t, nblt_t, Bool.not_true, Bool.not_false, Bool.not_not, ieq_t, ieq_f, ine_t, ine_f, true_and, and_true, andT_l]
    · have e : rtE b = 7 := by unfold rtE; rw [if_pos h0, if_neg h1]
      rw [e]
      simp (disch := omega) only [dec_t, dec_f, inB_t, inC_t, andT_t, cond_true, cond_false, Bool.and_true, Bool.true_and, w64, wu32, wu8, nble_t, nblt_t, Bool.not_true, Bool.not_false, Bool.not_not, ieq_t, ieq_f, ine_t, ine_f, true_and, and_true, andT_l]
      rfl
  · have e : rtE b = hdE b := by unfold rtE; rw [if_neg h0]
    rw [e]
    have z1 : ∀ x, zI (hdE b) x = 0 := fun x => if_neg h0
    have z2 : ∀ x, zV (hdE b) x = [] := fun x => if_neg h0
    simp only [z1, z2]
    simp (disch := omega) only [dec_t, dec_f, inB_t, inC_t, andT_t, cond_true, cond_false, Bool.and_true, Bool.true_and, w64, wu32, wu8, nble_t, nblt_t, Bool.not_true, Bool.not_false, Bool.not_not, ieq_t, ieq_f, ine_t, ine_f, true_and, and_true, andT_l]
theorem rDtHdr_con : ∀ vs v, cHdr vs = some (v, true) → SpecV Try.prog 37 vs v := by
  intro vs v h; unfold cHdr at h; split at h
  · rename_i b
    injection h with h; injection h with h hb; subst h
    exact callV_ok Edtk_ok af_rDtHdr_ok (rDtHdr_v b (of_decide_eq_true hb))
  · cases h
noncomputable def af_rDtRem : AF := afOf Try.prog Try.f38 []
theorem af_rDtRem_ok : AllOk Try.prog 38 af_rDtRem := .flat Try.func38 (by kernel_rfl) (by kernel_rfl) (by kernel_rfl) (by kernel_rfl) (by kernel_rfl)
noncomputable def af_rDtAdv : AF := afOf Try.prog Try.f40 []
theorem af_rDtAdv_ok : AllOk Try.prog 40 af_rDtAdv := .flat Try.func40 (by kernel_rfl) (by kernel_rfl) (by kernel_rfl) (by kernel_rfl) (by kernel_rfl)
noncomputable def GEdtl : List (Nat × Con) := [(86, .val [.bytes] cRHead), (37, .val [.bytes] cHdr), (89, .val [.agg [.int .i64, .int .i64, .int .i64, .int .i64, .int .i64, .barr 16, .barr 16]] cRSxPut)]
theorem GEdtl_ok : GOk Try.prog GEdtl := .cons (enters_of Try.func86 (by kernel_rfl) rfl) rDtHead_con <| .cons (enters_of Try.func37 (by kernel_rfl) rfl) rDtHdr_con <| .cons (enters_of Try.func89 (by kernel_rfl) rfl) rSxPut_con <| .nil
noncomputable def IEdtl : List (Nat × AF) := []
theorem IEdtl_ok : IOk Try.prog IEdtl := .nil
noncomputable def CEdtl : List (Nat × (List Nat × (S → Option S))) := []
theorem CEdtl_ok : COk Try.prog CEdtl := .nil
noncomputable def XEdtl : List (Nat × (List Sh × (List V → PT))) := []
theorem XEdtl_ok : XOk Try.prog XEdtl := .nil
noncomputable def Edtl : Env := ⟨Try.prog, GEdtl, IEdtl, CEdtl, XEdtl⟩
theorem Edtl_ok : EnvOk Edtl := ⟨by kernel_rfl, GEdtl_ok, IEdtl_ok, CEdtl_ok, XEdtl_ok⟩
theorem rDtRem_t (b : List UInt8) : callV Edtl af_rDtRem [.bytes b] =
 bif andT true (decide (b.length ≤ (140737488352000 : Nat))) then
 bif rtE b != (0 : Int) then some (V.tup [V.ownv (5 : Nat) (V.bytes []), V.int IntKind.i64 (rtE b)])
 else
 bif andT true (decide (b.length ≤ (140737488355328 : Nat))) then
 bif andT true (Am.inB (0 : Int) (zV (rtE b) (sS (List.drop (40 : Nat) b))).length) && true then
 bif
 andT
 (andT true
 (Am.inC (IntKind.i64.wrap ((40 : Int) + zI (rtE b) (sZ (List.drop (40 : Nat) b)))) b.length))
 (((hdX (zI (hdE b) (gC b)) (zI (hdE b) (gLa b))
 (IntKind.i64.wrap (zI (hdE b) (gLn b) - zI (rtE b) (sZ (List.drop (40 : Nat) b))))
 (zI (rtE b) (sN (List.drop (40 : Nat) b))) (zI (hdE b) (gHp b)) (zB (hdE b) (gS b))
 (toA ((zV (rtE b) (sS (List.drop (40 : Nat) b))).getD (0 : Nat) V.undef)) ++
 cutL b (IntKind.i64.wrap ((40 : Int) + zI (rtE b) (sZ (List.drop (40 : Nat) b)))).toNat
 b.length).length *
 (1 : Nat)).ble
 (140737488355328 : Nat)) &&
 true then
 some
 (V.tup
 [V.ownv (5 : Nat)
 (V.bytes
 (hdX (zI (hdE b) (gC b)) (zI (hdE b) (gLa b))
 (IntKind.i64.wrap (zI (hdE b) (gLn b) - zI (rtE b) (sZ (List.drop (40 : Nat) b))))
 (zI (rtE b) (sN (List.drop (40 : Nat) b))) (zI (hdE b) (gHp b)) (zB (hdE b) (gS b))
 (toA ((zV (rtE b) (sS (List.drop (40 : Nat) b))).getD (0 : Nat) V.undef)) ++
 cutL b (IntKind.i64.wrap ((40 : Int) + zI (rtE b) (sZ (List.drop (40 : Nat) b)))).toNat
 b.length)),
 V.int IntKind.i64 (0 : Int)])
 else none
 else none
 else none
 else none := by kernel_rfl

theorem rDtAdv_t (b : List UInt8) : callV Edtl af_rDtAdv [.bytes b] =
 bif andT true (decide (b.length ≤ (140737488352000 : Nat))) then
 bif rtE b != (0 : Int) then some (V.tup [V.ownv (5 : Nat) (V.bytes []), V.int IntKind.i64 (rtE b)])
 else
 bif andT true (decide (b.length ≤ (140737488355328 : Nat))) then
 bif zI (rtE b) (sL (List.drop (40 : Nat) b)) == (0 : Int) then
 some (V.tup [V.ownv (5 : Nat) (V.bytes []), V.int IntKind.i64 (10 : Int)])
 else
 bif decide (zI (hdE b) (gHp b) < (2 : Int)) then
 some (V.tup [V.ownv (5 : Nat) (V.bytes []), V.int IntKind.i64 (13 : Int)])
 else
 bif
 andT true
 (Am.inB (IntKind.i64.wrap (zI (rtE b) (sL (List.drop (40 : Nat) b)) - (1 : Int)))
 (zV (rtE b) (sS (List.drop (40 : Nat) b))).length) &&
 true then
 bif
 andT (andT true (Am.inC (40 : Int) b.length))
 (((hdX (zI (hdE b) (gC b)) (zI (hdE b) (gLa b)) (zI (hdE b) (gLn b)) (zI (hdE b) (gNx b))
 (IntKind.i64.wrap (zI (hdE b) (gHp b) - (1 : Int))) (zB (hdE b) (gS b))
 (toA
 ((zV (rtE b) (sS (List.drop (40 : Nat) b))).getD
 (IntKind.i64.wrap (zI (rtE b) (sL (List.drop (40 : Nat) b)) - (1 : Int))).toNat
 V.undef)) ++
 cutL b (40 : Nat) b.length).length *
 (1 : Nat)).ble
 (140737488355328 : Nat)) &&
 true then
 bif
 andT true
 (Am.inB (43 : Int)
 (hdX (zI (hdE b) (gC b)) (zI (hdE b) (gLa b)) (zI (hdE b) (gLn b)) (zI (hdE b) (gNx b))
 (IntKind.i64.wrap (zI (hdE b) (gHp b) - (1 : Int))) (zB (hdE b) (gS b))
 (toA
 ((zV (rtE b) (sS (List.drop (40 : Nat) b))).getD
 (IntKind.i64.wrap (zI (rtE b) (sL (List.drop (40 : Nat) b)) - (1 : Int))).toNat
 V.undef)) ++
 cutL b (40 : Nat) b.length).length) then
 some
 (V.tup
 [V.ownv (5 : Nat)
 (V.bytes
 ((hdX (zI (hdE b) (gC b)) (zI (hdE b) (gLa b)) (zI (hdE b) (gLn b)) (zI (hdE b) (gNx b))
 (IntKind.i64.wrap (zI (hdE b) (gHp b) - (1 : Int))) (zB (hdE b) (gS b))
 (toA
 ((zV (rtE b) (sS (List.drop (40 : Nat) b))).getD
 (IntKind.i64.wrap (zI (rtE b) (sL (List.drop (40 : Nat) b)) - (1 : Int))).toNat
 V.undef)) ++
 cutL b (40 : Nat) b.length).set
 (43 : Nat)
 (u8
 (IntKind.u8.wrap
 (IntKind.i64.wrap (zI (rtE b) (sL (List.drop (40 : Nat) b)) - (1 : Int))))))),
 V.int IntKind.i64 (0 : Int)])
 else none
 else none
 else none
 else none
 else none := by kernel_rfl

theorem rDtRem_v (b : List UInt8) (h : b.length ≤ 140737488352000) : callV Edtl af_rDtRem [.bytes b] = some (.tup [.ownv 5 (.bytes (rmB b)), .int .i64 (rtE b)]) := by
  rw [rDtRem_t]
  by_cases h0 : rtE b = 0
  · have f := rtF h0
    have z1 : ∀ x, zI (rtE b) x = x := fun x => if_pos h0
    have z2 : ∀ x, zV (rtE b) x = x := fun x => if_pos h0
    have z3 : ∀ x, zI (hdE b) x = x := fun x => if_pos f.h0
    have z4 : ∀ x, zB (hdE b) x = x := fun x => if_pos f.h0
    simp only [z1, z2, z3, z4, Nat.mul_one]
    have f1 := f.z
    have f2 := f.z8
    have f3 := f.zl
    have f4 := f.sl
    have f5 := f.n1
    have f6 := f.ln
    rw [w64 (x := 40 + sZ (b.drop 40)) (by omega) (by omega), w64 (x := gLn b - sZ (b.drop 40)) (by omega) (by omega), cutL_all, f6]
    unfold rmB
    rw [if_pos h0]
    have hl : (hdX (gC b) (gLa b) ((b.length : Int) - 40 - sZ (b.drop 40)) (sN (b.drop 40)) (gHp b) (gS b) (toA ((sS (b.drop 40)).getD 0 .undef)) ++ b.drop (40 + sZ (b.drop 40)).toNat).length ≤ 140737488355328 := by
      have := hdX_len (gC b) (gLa b) ((b.length : Int) - 40 - sZ (b.drop 40)) (sN (b.drop 40)) (gHp b) (gS b) (toA ((sS (b.drop 40)).getD 0 .undef))
      rw [List.length_append, List.length_drop]; omega
    rw [h0]
    simp (disch := omega) only [dec_t, dec_f, inB_t, inC_t, andT_t, cond_true, cond_false, Bool.and_true, Bool.true_and, w64, wu32, wu8, nble_t, nblt_t, Bool.not_true, Bool.not_false, Bool.not_not, ieq_t, ieq_f, ine_t, ine_f, true_and, and_true, andT_l]
  · rw [rmB_no h0]
    simp (disch := omega) only [dec_t, dec_f, inB_t, inC_t, andT_t, cond_true, cond_false, Bool.and_true, Bool.true_and, w64, wu32, wu8, nble_t, nblt_t, Bool.not_true, Bool.not_false, Bool.not_not, ieq_t, ieq_f, ine_t, ine_f, true_and, and_true, andT_l]
theorem rDtRem_con : ∀ vs v, cRem vs = some (v, true) → SpecV Try.prog 38 vs v := by
  intro vs v h; unfold cRem at h; split at h
  · rename_i b
    injection h with h; injection h with h hb; subst h
    exact callV_ok Edtl_ok af_rDtRem_ok (rDtRem_v b (of_decide_eq_true hb))
  · cases h
theorem rDtAdv_v (b : List UInt8) (h : b.length ≤ 140737488352000) : callV Edtl af_rDtAdv [.bytes b] = some (.tup [.ownv 5 (.bytes (avB b)), .int .i64 (avE b)]) := by
  rw [rDtAdv_t]
  by_cases h0 : rtE b = 0
  · have f := rtF h0
    have z1 : ∀ x, zI (rtE b) x = x := fun x => if_pos h0
    have z2 : ∀ x, zV (rtE b) x = x := fun x => if_pos h0
    have z3 : ∀ x, zI (hdE b) x = x := fun x => if_pos f.h0
    have z4 : ∀ x, zB (hdE b) x = x := fun x => if_pos f.h0
    simp only [z1, z2, z3, z4, Nat.mul_one]
    have f0 := f.l0
    have f1 := f.ln
    have f2 := f.ll
    have f3 := f.sl
    have f4 := f.lo
    have f5 := f.hi
    have f6 := f.n10
    have hb := g_bds b
    by_cases h1 : 0 < sL (b.drop 40)
    · by_cases h2 : 1 < gHp b
      · have e : avE b = 0 := by unfold avE; rw [if_pos h0, if_pos h1, if_pos h2]
        have hl4 := av_len f h1 h2
        rw [w64 (x := sL (b.drop 40) - 1) (by omega) (by omega), w64 (x := gHp b - 1) (by omega) (by omega), cutL_all, f1]
        unfold avB
        rw [e, if_pos rfl, u8_wrapx]
        have hl5 : (hdX (gC b) (gLa b) ((b.length : Int) - 40) (gNx b) (gHp b - 1) (gS b) (toA ((sS (b.drop 40)).getD (sL (b.drop 40) - 1).toNat .undef)) ++ b.drop 40).length = b.length := by
          rw [List.length_append, hl4, List.length_drop]; omega
        rw [hl5]
        simp (disch := omega) only [dec_t, dec_f, inB_t, inC_t, andT_t, cond_true, cond_false, Bool.and_true, Bool.true_and, w64, wu32, wu8, nble_t, nblt_t, Bool.not_true, Bool.not_false, Bool.not_not, ieq_t, ieq_f, ine_t, ine_f, true_and, and_true, andT_l]
      · have e : avE b = 13 := by unfold avE; rw [if_pos h0, if_pos h1, if_neg h2]
        have e2 : avB b = [] := by unfold avB; rw [if_neg (by rw [e]; decide)]
        rw [e, e2]
        simp (disch := omega) only [dec_t, dec_f, inB_t, inC_t, andT_t, cond_true, cond_false, Bool.and_true, Bool.true_and, w64, wu32, wu8, nble_t, nblt_t, Bool.not_true, Bool.not_false, Bool.not_not, ieq_t, ieq_f, ine_t, ine_f, true_and, and_true, andT_l]
    · have e : avE b = 10 := by unfold avE; rw [if_pos h0, if_neg h1]
      have e2 : avB b = [] := by unfold avB; rw [if_neg (by rw [e]; decide)]
      rw [e, e2]
      simp (disch := omega) only [dec_t, dec_f, inB_t, inC_t, andT_t, cond_true, cond_false, Bool.and_true, Bool.true_and, w64, wu32, wu8, nble_t, nblt_t, Bool.not_true, Bool.not_false, Bool.not_not, ieq_t, ieq_f, ine_t, ine_f, true_and, and_true, andT_l]
  · have e : avE b = rtE b := by unfold avE; rw [if_neg h0]
    have e2 : avB b = [] := by unfold avB; rw [if_neg (by rw [e]; exact h0)]
    rw [e, e2]
    simp (disch := omega) only [dec_t, dec_f, inB_t, inC_t, andT_t, cond_true, cond_false, Bool.and_true, Bool.true_and, w64, wu32, wu8, nble_t, nblt_t, Bool.not_true, Bool.not_false, Bool.not_not, ieq_t, ieq_f, ine_t, ine_f, true_and, and_true, andT_l]
theorem rDtAdv_con : ∀ vs v, cAdv vs = some (v, true) → SpecV Try.prog 40 vs v := by
  intro vs v h; unfold cAdv at h; split at h
  · rename_i b
    injection h with h; injection h with h hb; subst h
    exact callV_ok Edtl_ok af_rDtAdv_ok (rDtAdv_v b (of_decide_eq_true hb))
  · cases h
end Go.Proofs.Ytbojofchpnfnlaa

namespace Go.Proofs.Ytbojofchpnfnlaa
open Go Go.Am Go.RowKit Go.Mix Go.Bas
set_option maxRecDepth 100000
abbrev shHd : Sh := .agg [.int .i64, .int .i64, .int .i64, .int .i64, .rows (.barr 16), .rows (.agg [.int .i64, .bytes])]
abbrev shH6 : Sh := .agg [.int .i64, .int .i64, .int .i64, .int .i64, .int .i64, .barr 16, .barr 16]
structure H6 where
  (c la ln nx hp : Int)
  (s d : List UInt8)
def H6.v (h : H6) : V := .agg [.int .i64 h.c, .int .i64 h.la, .int .i64 h.ln, .int .i64 h.nx, .int .i64 h.hp, .barr 16 h.s, .barr 16 h.d]
def nvW (h : H6) (nx lf : Int) (t l : List V) : List (Nat × Option Blk) := [(0, some (.var shHd (.agg [.int .i64 nx, .int .i64 lf, .int .i64 0, .int .i64 0, .own 2 l.length (.barr 16), .rows (.agg [.int .i64, .bytes]) t]))), (1, some (.var shH6 h.v)), (2, some (.row 39 (.barr 16) (.rows (.barr 16) l)))]
def nvS (h : H6) (b : List UInt8) (nx lf : Int) (t l s : List V) (i : Int) : S := ⟨[(12, .ref 0 [] 0 shHd), (13, .int .i64 i), (1, .rows (.barr 16) s), (0, .bytes b), (8, .ref 1 [] 0 shH6)], nvW h nx lf t l, 3, true, 111⟩
def nvX (h : H6) (b : List UInt8) (nx lf : Int) (t l s : List V) : S := ⟨[(12, .ref 0 [] 0 shHd), (1, .rows (.barr 16) s), (0, .bytes b), (8, .ref 1 [] 0 shH6)], nvW h nx lf t l, 3, true, 111⟩
def nvG : S → Option (Bool × Tr) := gOf 111 3 fun sl hp => match sl 12, sl 13, sl 1, sl 0, sl 8, hp 0, hp 1, hp 2 with
  | some (.ref 0 [] 0 (.agg [.int .i64, .int .i64, .int .i64, .int .i64, .rows (.barr 16), .rows (.agg [.int .i64, .bytes])])), some (.int .i64 i), some (.rows (.barr 16) s), some (.bytes b),
    some (.ref 1 [] 0 (.agg [.int .i64, .int .i64, .int .i64, .int .i64, .int .i64, .barr 16, .barr 16])),
    some (.var (.agg [.int .i64, .int .i64, .int .i64, .int .i64, .rows (.barr 16), .rows (.agg [.int .i64, .bytes])]) (.agg [.int .i64 nx, .int .i64 lf, .int .i64 0, .int .i64 0, .own 2 k (.barr 16), .rows (.agg [.int .i64, .bytes]) t])),
    some (.var (.agg [.int .i64, .int .i64, .int .i64, .int .i64, .int .i64, .barr 16, .barr 16]) (.agg [.int .i64 hc, .int .i64 hla, .int .i64 hln, .int .i64 hnx, .int .i64 hhp, .barr 16 hs, .barr 16 hd])),
    some (.row T (.barr 16) (.rows (.barr 16) l)) =>
      some (decide (k = l.length ∧ T = 39 ∧ -1 ≤ i ∧ i < s.length ∧ s.length ≤ 10 ∧ l.length + i ≤ 100) && isB16 s, .leaf (.exit 0) (nvX ⟨hc, hla, hln, hnx, hhp, hs, hd⟩ b nx lf t (l ++ (s.take (i + 1).toNat).reverse) s))
  | _, _, _, _, _, _, _, _ => none
noncomputable def af_rDtIns : AF := afOf Try.prog Try.f34 [.sum [12, 13, 1, 0, 8] [] nvG]
noncomputable def nvC : AC := (af_rDtIns.ac.sums.headD (.skip, [], [], fun _ => none)).1
noncomputable def GEdtm : List (Nat × Con) := [(86, .val [.bytes] cRHead), (87, .val [.bytes, .int .i64, .int .i64, .int .i64] cRWk9), (88, .val [.agg [.int .i64, .int .i64, .int .i64, .int .i64, .rows (.barr 16), .rows (.agg [.int .i64, .bytes])]] cSrhPut), (89, .val [.agg [.int .i64, .int .i64, .int .i64, .int .i64, .int .i64, .barr 16, .barr 16]] cRSxPut)]
theorem GEdtm_ok : GOk Try.prog GEdtm := .cons (enters_of Try.func86 (by kernel_rfl) rfl) rDtHead_con <| .cons (enters_of Try.func87 (by kernel_rfl) rfl) rWk9_con <| .cons (enters_of Try.func88 (by kernel_rfl) rfl) rSrhPut_con <| .cons (enters_of Try.func89 (by kernel_rfl) rfl) rSxPut_con <| .nil
noncomputable def IEdtm : List (Nat × AF) := []
theorem IEdtm_ok : IOk Try.prog IEdtm := .nil
noncomputable def CEdtm : List (Nat × (List Nat × (S → Option S))) := []
theorem CEdtm_ok : COk Try.prog CEdtm := .nil
noncomputable def XEdtm : List (Nat × (List Sh × (List V → PT))) := []
theorem XEdtm_ok : XOk Try.prog XEdtm := .nil
noncomputable def Edtm : Env := ⟨Try.prog, GEdtm, IEdtm, CEdtm, XEdtm⟩
theorem Edtm_ok : EnvOk Edtm := ⟨by kernel_rfl, GEdtm_ok, IEdtm_ok, CEdtm_ok, XEdtm_ok⟩
theorem nv_b (h : H6) (b : List UInt8) (nx lf : Int) (t l s : List V) (i : Int) : aev Edtm (inlN Edtm 6) nvC (bodyK [12, 13, 1, 0, 8] [12, 1, 0, 8] []) (nvS h b nx lf t l s i) =
 bif decide (i ≥ (0 : Int)) then
 bif
 andT (andT true (Am.inB i s.length))
 (((l ++
 V.barr (16 : Nat) (toA (s.getD i.toNat V.undef)) ::
 List.replicate (nat_lit 0) (V.barr (16 : Nat) (List.replicate (16 : Nat) (0 : UInt8)))).length *
 (16 : Nat)).ble
 (140737488355328 : Nat)) &&
 true then
 some
 (Ex.normal,
              {
                sl :=
                  [((12 : Nat),
                      V.ref (0 : Nat) [] (0 : Nat)
                        (Sh.agg
                          [Sh.int IntKind.i64, Sh.int IntKind.i64, Sh.int IntKind.i64, Sh.int IntKind.i64,
                            (Sh.barr (16 : Nat)).rows, (Sh.agg [Sh.int IntKind.i64, Sh.bytes]).rows])),
                    ((13 : Nat), V.int IntKind.i64 (IntKind.i64.wrap (i - (1 : Int)))),
                    ((1 : Nat), V.rows (Sh.barr (16 : Nat)) s), ((0 : Nat), V.bytes b),
                    ((8 : Nat),
                      V.ref (1 : Nat) [] (0 : Nat)
                        (Sh.agg
                          [Sh.int IntKind.i64, Sh.int IntKind.i64, Sh.int IntKind.i64, Sh.int IntKind.i64,
                            Sh.int IntKind.i64, Sh.barr (16 : Nat), Sh.barr (16 : Nat)]))],
                hp :=
                  [((0 : Nat),
                      some
                        (Blk.var
                          (Sh.agg
                            [Sh.int IntKind.i64, Sh.int IntKind.i64, Sh.int IntKind.i64, Sh.int IntKind.i64,
                              (Sh.barr (16 : Nat)).rows, (Sh.agg [Sh.int IntKind.i64, Sh.bytes]).rows])
                          (V.agg
                            [V.int IntKind.i64 nx, V.int IntKind.i64 lf, V.int IntKind.i64 (0 : Int),
                              V.int IntKind.i64 (0 : Int),
                              V.own (2 : Nat)
                                (l ++
                                    V.barr (16 : Nat) (toA (s.getD i.toNat V.undef)) ::
                                      List.replicate (nat_lit 0)
                                        (V.barr (16 : Nat) (List.replicate (16 : Nat) (0 : UInt8)))).length
                                (Sh.barr (16 : Nat)),
                              V.rows (Sh.agg [Sh.int IntKind.i64, Sh.bytes]) t]))),
                    ((1 : Nat),
                      some
                        (Blk.var
                          (Sh.agg
                            [Sh.int IntKind.i64, Sh.int IntKind.i64, Sh.int IntKind.i64, Sh.int IntKind.i64,
                              Sh.int IntKind.i64, Sh.barr (16 : Nat), Sh.barr (16 : Nat)])
                          (V.agg
                            [V.int IntKind.i64 h.1, V.int IntKind.i64 h.2, V.int IntKind.i64 h.3, V.int IntKind.i64 h.4,
                              V.int IntKind.i64 h.5, V.barr (16 : Nat) h.6, V.barr (16 : Nat) h.7]))),
                    ((2 : Nat),
                      some
                        (Blk.row (39 : Nat) (Sh.barr (16 : Nat))
                          (V.rows (Sh.barr (16 : Nat))
                            (l ++
                              V.barr (16 : Nat) (toA (s.getD i.toNat V.undef)) ::
                                List.replicate (nat_lit 0) (V.barr (16 : Nat) (List.replicate (16 : Nat) (0 : UInt8)))))))],
                nx := (3 : Nat), ob := true, n := (111 : Nat) })
 else none
 else
 some
 (Ex.exit (0 : Nat),
            {
              sl :=
                [((12 : Nat),
                    V.ref (0 : Nat) [] (0 : Nat)
                      (Sh.agg
                        [Sh.int IntKind.i64, Sh.int IntKind.i64, Sh.int IntKind.i64, Sh.int IntKind.i64,
                          (Sh.barr (16 : Nat)).rows, (Sh.agg [Sh.int IntKind.i64, Sh.bytes]).rows])),
                  ((1 : Nat), V.rows (Sh.barr (16 : Nat)) s), ((0 : Nat), V.bytes b),
                  ((8 : Nat),
                    V.ref (1 : Nat) [] (0 : Nat)
                      (Sh.agg
                        [Sh.int IntKind.i64, Sh.int IntKind.i64, Sh.int IntKind.i64, Sh.int IntKind.i64, Sh.int IntKind.i64,
                          Sh.barr (16 : Nat), Sh.barr (16 : Nat)]))],
              hp :=
                [((0 : Nat),
                    some
                      (Blk.var
                        (Sh.agg
                          [Sh.int IntKind.i64, Sh.int IntKind.i64, Sh.int IntKind.i64, Sh.int IntKind.i64,
                            (Sh.barr (16 : Nat)).rows, (Sh.agg [Sh.int IntKind.i64, Sh.bytes]).rows])
                        (V.agg
                          [V.int IntKind.i64 nx, V.int IntKind.i64 lf, V.int IntKind.i64 (0 : Int),
                            V.int IntKind.i64 (0 : Int), V.own (2 : Nat) l.length (Sh.barr (16 : Nat)),
                            V.rows (Sh.agg [Sh.int IntKind.i64, Sh.bytes]) t]))),
                  ((1 : Nat),
                    some
                      (Blk.var
                        (Sh.agg
                          [Sh.int IntKind.i64, Sh.int IntKind.i64, Sh.int IntKind.i64, Sh.int IntKind.i64,
                            Sh.int IntKind.i64, Sh.barr (16 : Nat), Sh.barr (16 : Nat)])
                        (V.agg
                          [V.int IntKind.i64 h.1, V.int IntKind.i64 h.2, V.int IntKind.i64 h.3, V.int IntKind.i64 h.4,
                            V.int IntKind.i64 h.5, V.barr (16 : Nat) h.6, V.barr (16 : Nat) h.7]))),
                  ((2 : Nat), some (Blk.row (39 : Nat) (Sh.barr (16 : Nat)) (V.rows (Sh.barr (16 : Nat)) l)))],
              nx := (3 : Nat), ob := true, n := (111 : Nat) }) := by kernel_rfl

structure NvX where
  (h : H6)
  (b : List UInt8)
  (nx lf : Int)
  (t l s : List V)
  (i : Int)
theorem nv_take {s : List V} {k : Nat} (h : k < s.length) : (s.take (k + 1)).reverse = s.getD k .undef :: (s.take k).reverse := by
  rw [List.take_succ_eq_append_getElem h, List.reverse_append]
  simp [List.getD_eq_getElem?_getD, h]
theorem nv_loop : LoopOk Try.prog nvC.erase [] nvG := by
  refine loop_ok Edtm_ok (d := 6) (AC.flat_ok (by kernel_rfl)) [12, 13, 1, 0, 8] [12, 1, 0, 8] [] nvG (X := NvX) (fun x => nvS x.h x.b x.nx x.lf x.t x.l x.s x.i) (fun x => .leaf (.exit 0) (nvX x.h x.b x.nx x.lf x.t (x.l ++ (x.s.take (x.i + 1).toNat).reverse) x.s)) (fun x => (-1 ≤ x.i ∧ x.i < x.s.length ∧ x.s.length ≤ 10 ∧ x.l.length + x.i ≤ 100) ∧ isB16 x.s = true) (fun x => (x.i + 1).toNat) ?_ ?_
  · intro s t h
    obtain ⟨h1, h2, h3, h⟩ := gOf_spec h
    split at h
    · rename_i i s b nx lf k t jc jla jln jnx jhp js jd T l q1 q2 q3 q4 q5 q6 q7 q8
      injection h with h; injection h with hc ht
      obtain ⟨hc, hb⟩ := (Bool.and_eq_true _ _).mp hc
      obtain ⟨c1, c2, c3⟩ := of_decide_eq_true hc
      subst c1; subst c2
      exact ⟨⟨⟨jc, jla, jln, jnx, jhp, js, jd⟩, b, nx, lf, t, l, s, i⟩, .one h1 h2 (by simp [q1, q2, q3, q4, q5]) (by simp [nvW, H6.v, q6, q7, q8]), ⟨c3, hb⟩, ht.symm⟩
    · cases h
  · rintro ⟨h, b, nx, lf, t, l, s, i⟩ ⟨⟨h0, h1, hM, hl⟩, hB⟩
    simp only at h0 h1 hM hl hB ⊢
    rw [nv_b]
    have eL : ∀ (x y : V), l ++ x :: List.replicate (nat_lit 0) y = l ++ [x] := fun _ _ => rfl
    simp only [eL]
    by_cases hi : 0 ≤ i
    · have hk : i.toNat < s.length := by omega
      rw [isB16_get hB hk]
      have hll : (l ++ [s.getD i.toNat V.undef]).length = l.length + 1 := by simp
      refine .inl ⟨⟨h, b, nx, lf, t, l ++ [s.getD i.toNat V.undef], s, i - 1⟩, ?_, ⟨⟨by dsimp only; omega, by dsimp only; omega, hM, by dsimp only; rw [hll]; omega⟩, hB⟩, by dsimp only; omega, leaf_eq ?_⟩
      · rw [w64 (x := i - 1) (by omega) (by omega)]
        unfold nvS nvW H6.v
        simp only [hll]
        simp (disch := omega) only [dec_t, dec_f, inB_t, inC_t, andT_t, cond_true, cond_false, Bool.and_true, Bool.true_and, w64, wu32, wu8, nble_t, nblt_t, Bool.not_true, Bool.not_false, Bool.not_not, ieq_t, ieq_f, ine_t, ine_f, true_and, and_true, andT_l]
      · dsimp only
        rw [show (i - 1 + 1).toNat = i.toNat by omega, show (i + 1).toNat = i.toNat + 1 by omega, nv_take hk]
        simp
    · refine .inr ⟨.exit 0, nvX h b nx lf t l s, ?_, nofun, ?_⟩
      · simp (disch := omega) only [dec_t, dec_f, inB_t, inC_t, andT_t, cond_true, cond_false, Bool.and_true, Bool.true_and, w64, wu32, wu8, nble_t, nblt_t, Bool.not_true, Bool.not_false, Bool.not_not, ieq_t, ieq_f, ine_t, ine_f, true_and, and_true, andT_l]
        rfl
      · rw [show (i + 1).toNat = 0 by omega]
        simp only [List.take_zero, List.reverse_nil, List.append_nil]
        exact .leaf
theorem af_rDtIns_ok : AllOk Try.prog 34 af_rDtIns := .sums Try.func34 (by kernel_rfl) (by kernel_rfl) (by kernel_rfl) (by kernel_rfl) (sums_one (c := nvC) (ts := [12, 13, 1, 0, 8]) (by kernel_rfl) (by kernel_rfl) nv_loop)
theorem rDtIns_t (b : List UInt8) (s t : List V) : callV Edtm af_rDtIns [.bytes b, .rows (.barr 16) s, .rows (.agg [.int .i64, .bytes]) t] =
 bif andT true (decide (b.length ≤ (140737488355328 : Nat))) then
 bif hdE b != (0 : Int) then some (V.tup [V.ownv (5 : Nat) (V.bytes []), V.int IntKind.i64 (hdE b)])
 else
 bif zI (hdE b) (gNx b) == (43 : Int) then
 some (V.tup [V.ownv (5 : Nat) (V.bytes []), V.int IntKind.i64 (7 : Int)])
 else
 bif zI (hdE b) (gNx b) == (0 : Int) then
 some (V.tup [V.ownv (5 : Nat) (V.bytes []), V.int IntKind.i64 (7 : Int)])
 else
 bif (↑s.length : Int) == (0 : Int) then
 some (V.tup [V.ownv (5 : Nat) (V.bytes []), V.int IntKind.i64 (8 : Int)])
 else
 bif decide ((↑s.length : Int) > (9 : Int)) then
 some (V.tup [V.ownv (5 : Nat) (V.bytes []), V.int IntKind.i64 (8 : Int)])
 else
 bif
 andT true
 (decide (b.length ≤ (140737488355328 : Nat) ∧ (0 : Int) ≤ (0 : Int) ∧ (0 : Int) ≤ (8 : Int))) then
 bif rwE b (zI (hdE b) (gNx b)) (40 : Int) (0 : Int) == (0 : Int) then
 bif decide ((↑(rwV b (zI (hdE b) (gNx b)) (40 : Int) (0 : Int)).length : Int) > (8 : Int)) then
 some (V.tup [V.ownv (5 : Nat) (V.bytes []), V.int IntKind.i64 (8 : Int)])
 else
 bif
 decide
 ((1 : Nat) =
 (V.barr (16 : Nat) (zB (hdE b) (gD b)) ::
 List.replicate (nat_lit 0)
 (V.barr (16 : Nat) (List.replicate (16 : Nat) (0 : UInt8)))).length ∧
 (39 : Nat) = (39 : Nat) ∧
 (-1 : Int) ≤ IntKind.i64.wrap ((↑s.length : Int) - (1 : Int)) ∧
 IntKind.i64.wrap ((↑s.length : Int) - (1 : Int)) < (↑s.length : Int) ∧
 s.length ≤ (10 : Nat) ∧
 (↑(V.barr (16 : Nat) (zB (hdE b) (gD b)) ::
 List.replicate (nat_lit 0)
 (V.barr (16 : Nat)
 (List.replicate (16 : Nat) (0 : UInt8)))).length :
 Int) +
 IntKind.i64.wrap ((↑s.length : Int) - (1 : Int)) ≤
 (100 : Int)) &&
 isB16 s then
 bif
 andT true
 (decide (t.length ≤ (4611686018427387904 : Nat)) &&
 okS
 (V.barr (16 : Nat) (zB (hdE b) (gD b)) ::
 List.replicate (nat_lit 0)
 (V.barr (16 : Nat) (List.replicate (16 : Nat) (0 : UInt8))) ++
 (List.take (IntKind.i64.wrap ((↑s.length : Int) - (1 : Int)) + (1 : Int)).toNat
 s).reverse)) then
 bif
 srC (zI (hdE b) (gNx b)) (↑s.length : Int) (0 : Int) (0 : Int)
 (V.barr (16 : Nat) (zB (hdE b) (gD b)) ::
 List.replicate (nat_lit 0)
 (V.barr (16 : Nat) (List.replicate (16 : Nat) (0 : UInt8))) ++
 (List.take (IntKind.i64.wrap ((↑s.length : Int) - (1 : Int)) + (1 : Int)).toNat
 s).reverse)
 t !=
 (0 : Int) then
 some
 (V.tup
 [V.ownv (5 : Nat) (V.bytes []),
 V.int IntKind.i64
 (srC (zI (hdE b) (gNx b)) (↑s.length : Int) (0 : Int) (0 : Int)
 (V.barr (16 : Nat) (zB (hdE b) (gD b)) ::
 List.replicate (nat_lit 0)
 (V.barr (16 : Nat) (List.replicate (16 : Nat) (0 : UInt8))) ++
 (List.take (IntKind.i64.wrap ((↑s.length : Int) - (1 : Int)) + (1 : Int)).toNat
 s).reverse)
 t)])
 else
 bif
 decide
 (IntKind.i64.wrap
 ((↑b.length : Int) +
 (↑(srP
                                                  { nx := zI (hdE b) (gNx b), lf := (↑s.length : Int), fl := (0 : Int),
                                                    tg := (0 : Int),
                                                    s :=
                                                      V.barr (16 : Nat) (zB (hdE b) (gD b)) ::
                                                          List.replicate (nat_lit 0)
                                                            (V.barr (16 : Nat) (List.replicate (16 : Nat) (0 : UInt8))) ++
                                                        (List.take
                                                            (IntKind.i64.wrap ((↑s.length : Int) - (1 : Int)) +
                                                                (1 : Int)).toNat
                                                            s).reverse,
                                                    t := t }).length :
 Int)) >
 (1500 : Int)) then
 some (V.tup [V.ownv (5 : Nat) (V.bytes []), V.int IntKind.i64 (4 : Int)])
 else
 bif andT true (Am.inB (0 : Int) s.length) && true then
 bif
 andT
 (andT
 (andT true
 (((hdX (zI (hdE b) (gC b)) (zI (hdE b) (gLa b))
 (IntKind.i64.wrap
 (zI (hdE b) (gLn b) +
 (↑(srP
                                                                      { nx := zI (hdE b) (gNx b), lf := (↑s.length : Int),
                                                                        fl := (0 : Int), tg := (0 : Int),
                                                                        s :=
                                                                          V.barr (16 : Nat) (zB (hdE b) (gD b)) ::
                                                                              List.replicate (nat_lit 0)
                                                                                (V.barr (16 : Nat)
                                                                                  (List.replicate (16 : Nat)
                                                                                    (0 : UInt8))) ++
                                                                            (List.take
                                                                                (IntKind.i64.wrap
                                                                                      ((↑s.length : Int) - (1 : Int)) +
                                                                                    (1 : Int)).toNat
                                                                                s).reverse,
                                                                        t := t }).length :
 Int)))
 (43 : Int) (zI (hdE b) (gHp b)) (zB (hdE b) (gS b))
 (toA (s.getD (0 : Nat) V.undef)) ++
 srP
                                                          { nx := zI (hdE b) (gNx b), lf := (↑s.length : Int),
                                                            fl := (0 : Int), tg := (0 : Int),
                                                            s :=
                                                              V.barr (16 : Nat) (zB (hdE b) (gD b)) ::
                                                                  List.replicate (nat_lit 0)
                                                                    (V.barr (16 : Nat)
                                                                      (List.replicate (16 : Nat) (0 : UInt8))) ++
                                                                (List.take
                                                                    (IntKind.i64.wrap ((↑s.length : Int) - (1 : Int)) +
                                                                        (1 : Int)).toNat
                                                                    s).reverse,
                                                            t := t }).length *
 (1 : Nat)).ble
 (140737488355328 : Nat)))
 (Am.inC (40 : Int) b.length))
 (((hdX (zI (hdE b) (gC b)) (zI (hdE b) (gLa b))
 (IntKind.i64.wrap
 (zI (hdE b) (gLn b) +
 (↑(srP
                                                                    { nx := zI (hdE b) (gNx b), lf := (↑s.length : Int),
                                                                      fl := (0 : Int), tg := (0 : Int),
                                                                      s :=
                                                                        V.barr (16 : Nat) (zB (hdE b) (gD b)) ::
                                                                            List.replicate (nat_lit 0)
                                                                              (V.barr (16 : Nat)
                                                                                (List.replicate (16 : Nat) (0 : UInt8))) ++
                                                                          (List.take
                                                                              (IntKind.i64.wrap
                                                                                    ((↑s.length : Int) - (1 : Int)) +
                                                                                  (1 : Int)).toNat
                                                                              s).reverse,
                                                                      t := t }).length :
 Int)))
 (43 : Int) (zI (hdE b) (gHp b)) (zB (hdE b) (gS b))
 (toA (s.getD (0 : Nat) V.undef)) ++
 srP
                                                        { nx := zI (hdE b) (gNx b), lf := (↑s.length : Int),
                                                          fl := (0 : Int), tg := (0 : Int),
                                                          s :=
                                                            V.barr (16 : Nat) (zB (hdE b) (gD b)) ::
                                                                List.replicate (nat_lit 0)
                                                                  (V.barr (16 : Nat)
                                                                    (List.replicate (16 : Nat) (0 : UInt8))) ++
                                                              (List.take
                                                                  (IntKind.i64.wrap ((↑s.length : Int) - (1 : Int)) +
                                                                      (1 : Int)).toNat
                                                                  s).reverse,
                                                          t := t } ++
 cutL b (40 : Nat) b.length).length *
 (1 : Nat)).ble
 (140737488355328 : Nat)) &&
 true then
 some
 (V.tup
 [V.ownv (5 : Nat)
 (V.bytes
 (hdX (zI (hdE b) (gC b)) (zI (hdE b) (gLa b))
 (IntKind.i64.wrap
 (zI (hdE b) (gLn b) +
 (↑(srP
                                                                { nx := zI (hdE b) (gNx b), lf := (↑s.length : Int),
                                                                  fl := (0 : Int), tg := (0 : Int),
                                                                  s :=
                                                                    V.barr (16 : Nat) (zB (hdE b) (gD b)) ::
                                                                        List.replicate (nat_lit 0)
                                                                          (V.barr (16 : Nat)
                                                                            (List.replicate (16 : Nat) (0 : UInt8))) ++
                                                                      (List.take
                                                                          (IntKind.i64.wrap
                                                                                ((↑s.length : Int) - (1 : Int)) +
                                                                              (1 : Int)).toNat
                                                                          s).reverse,
                                                                  t := t }).length :
 Int)))
 (43 : Int) (zI (hdE b) (gHp b)) (zB (hdE b) (gS b))
 (toA (s.getD (0 : Nat) V.undef)) ++
 srP
                                                    { nx := zI (hdE b) (gNx b), lf := (↑s.length : Int), fl := (0 : Int),
                                                      tg := (0 : Int),
                                                      s :=
                                                        V.barr (16 : Nat) (zB (hdE b) (gD b)) ::
                                                            List.replicate (nat_lit 0)
                                                              (V.barr (16 : Nat) (List.replicate (16 : Nat) (0 : UInt8))) ++
                                                          (List.take
                                                              (IntKind.i64.wrap ((↑s.length : Int) - (1 : Int)) +
                                                                  (1 : Int)).toNat
                                                              s).reverse,
                                                      t := t } ++
 cutL b (40 : Nat) b.length)),
 V.int IntKind.i64 (0 : Int)])
 else none
 else none
 else none
 else none
 else
 bif
 decide
 ((1 : Nat) =
 (V.barr (16 : Nat) (zB (hdE b) (gD b)) ::
 List.replicate (nat_lit 0)
 (V.barr (16 : Nat) (List.replicate (16 : Nat) (0 : UInt8)))).length ∧
 (39 : Nat) = (39 : Nat) ∧
 (-1 : Int) ≤ IntKind.i64.wrap ((↑s.length : Int) - (1 : Int)) ∧
 IntKind.i64.wrap ((↑s.length : Int) - (1 : Int)) < (↑s.length : Int) ∧
 s.length ≤ (10 : Nat) ∧
 (↑(V.barr (16 : Nat) (zB (hdE b) (gD b)) ::
 List.replicate (nat_lit 0)
 (V.barr (16 : Nat) (List.replicate (16 : Nat) (0 : UInt8)))).length :
 Int) +
 IntKind.i64.wrap ((↑s.length : Int) - (1 : Int)) ≤
 (100 : Int)) &&
 isB16 s then
 bif
 andT true
 (decide (t.length ≤ (4611686018427387904 : Nat)) &&
 okS
 (V.barr (16 : Nat) (zB (hdE b) (gD b)) ::
 List.replicate (nat_lit 0)
 (V.barr (16 : Nat) (List.replicate (16 : Nat) (0 : UInt8))) ++
 (List.take (IntKind.i64.wrap ((↑s.length : Int) - (1 : Int)) + (1 : Int)).toNat
 s).reverse)) then
 bif
 srC (zI (hdE b) (gNx b)) (↑s.length : Int) (0 : Int) (0 : Int)
 (V.barr (16 : Nat) (zB (hdE b) (gD b)) ::
 List.replicate (nat_lit 0)
 (V.barr (16 : Nat) (List.replicate (16 : Nat) (0 : UInt8))) ++
 (List.take (IntKind.i64.wrap ((↑s.length : Int) - (1 : Int)) + (1 : Int)).toNat
 s).reverse)
 t !=
 (0 : Int) then
 some
 (V.tup
 [V.ownv (5 : Nat) (V.bytes []),
 V.int IntKind.i64
 (srC (zI (hdE b) (gNx b)) (↑s.length : Int) (0 : Int) (0 : Int)
 (V.barr (16 : Nat) (zB (hdE b) (gD b)) ::
 List.replicate (nat_lit 0)
 (V.barr (16 : Nat) (List.replicate (16 : Nat) (0 : UInt8))) ++
 (List.take (IntKind.i64.wrap ((↑s.length : Int) - (1 : Int)) + (1 : Int)).toNat
 s).reverse)
 t)])
 else
 bif
 decide
 (IntKind.i64.wrap
 ((↑b.length : Int) +
 (↑(srP
                                                { nx := zI (hdE b) (gNx b), lf := (↑s.length : Int), fl := (0 : Int),
                                                  tg := (0 : Int),
                                                  s :=
                                                    V.barr (16 : Nat) (zB (hdE b) (gD b)) ::
                                                        List.replicate (nat_lit 0)
                                                          (V.barr (16 : Nat) (List.replicate (16 : Nat) (0 : UInt8))) ++
                                                      (List.take
                                                          (IntKind.i64.wrap ((↑s.length : Int) - (1 : Int)) +
                                                              (1 : Int)).toNat
                                                          s).reverse,
                                                  t := t }).length :
 Int)) >
 (1500 : Int)) then
 some (V.tup [V.ownv (5 : Nat) (V.bytes []), V.int IntKind.i64 (4 : Int)])
 else
 bif andT true (Am.inB (0 : Int) s.length) && true then
 bif
 andT
 (andT
 (andT true
 (((hdX (zI (hdE b) (gC b)) (zI (hdE b) (gLa b))
 (IntKind.i64.wrap
 (zI (hdE b) (gLn b) +
 (↑(srP
                                                                    { nx := zI (hdE b) (gNx b), lf := (↑s.length : Int),
                                                                      fl := (0 : Int), tg := (0 : Int),
                                                                      s :=
                                                                        V.barr (16 : Nat) (zB (hdE b) (gD b)) ::
                                                                            List.replicate (nat_lit 0)
                                                                              (V.barr (16 : Nat)
                                                                                (List.replicate (16 : Nat) (0 : UInt8))) ++
                                                                          (List.take
                                                                              (IntKind.i64.wrap
                                                                                    ((↑s.length : Int) - (1 : Int)) +
                                                                                  (1 : Int)).toNat
                                                                              s).reverse,
                                                                      t := t }).length :
 Int)))
 (43 : Int) (zI (hdE b) (gHp b)) (zB (hdE b) (gS b))
 (toA (s.getD (0 : Nat) V.undef)) ++
 srP
                                                        { nx := zI (hdE b) (gNx b), lf := (↑s.length : Int),
                                                          fl := (0 : Int), tg := (0 : Int),
                                                          s :=
                                                            V.barr (16 : Nat) (zB (hdE b) (gD b)) ::
                                                                List.replicate (nat_lit 0)
                                                                  (V.barr (16 : Nat)
                                                                    (List.replicate (16 : Nat) (0 : UInt8))) ++
                                                              (List.take
                                                                  (IntKind.i64.wrap ((↑s.length : Int) - (1 : Int)) +
                                                                      (1 : Int)).toNat
                                                                  s).reverse,
                                                          t := t }).length *
 (1 : Nat)).ble
 (140737488355328 : Nat)))
 (Am.inC (40 : Int) b.length))
 (((hdX (zI (hdE b) (gC b)) (zI (hdE b) (gLa b))
 (IntKind.i64.wrap
 (zI (hdE b) (gLn b) +
 (↑(srP
                                                                  { nx := zI (hdE b) (gNx b), lf := (↑s.length : Int),
                                                                    fl := (0 : Int), tg := (0 : Int),
                                                                    s :=
                                                                      V.barr (16 : Nat) (zB (hdE b) (gD b)) ::
                                                                          List.replicate (nat_lit 0)
                                                                            (V.barr (16 : Nat)
                                                                              (List.replicate (16 : Nat) (0 : UInt8))) ++
                                                                        (List.take
                                                                            (IntKind.i64.wrap
                                                                                  ((↑s.length : Int) - (1 : Int)) +
                                                                                (1 : Int)).toNat
                                                                            s).reverse,
                                                                    t := t }).length :
 Int)))
 (43 : Int) (zI (hdE b) (gHp b)) (zB (hdE b) (gS b))
 (toA (s.getD (0 : Nat) V.undef)) ++
 srP
                                                      { nx := zI (hdE b) (gNx b), lf := (↑s.length : Int), fl := (0 : Int),
                                                        tg := (0 : Int),
                                                        s :=
                                                          V.barr (16 : Nat) (zB (hdE b) (gD b)) ::
                                                              List.replicate (nat_lit 0)
                                                                (V.barr (16 : Nat)
                                                                  (List.replicate (16 : Nat) (0 : UInt8))) ++
                                                            (List.take
                                                                (IntKind.i64.wrap ((↑s.length : Int) - (1 : Int)) +
                                                                    (1 : Int)).toNat
                                                                s).reverse,
                                                        t := t } ++
 cutL b (40 : Nat) b.length).length *
 (1 : Nat)).ble
 (140737488355328 : Nat)) &&
 true then
 some
 (V.tup
 [V.ownv (5 : Nat)
 (V.bytes
 (hdX (zI (hdE b) (gC b)) (zI (hdE b) (gLa b))
 (IntKind.i64.wrap
 (zI (hdE b) (gLn b) +
 (↑(srP
                                                              { nx := zI (hdE b) (gNx b), lf := (↑s.length : Int),
                                                                fl := (0 : Int), tg := (0 : Int),
                                                                s :=
                                                                  V.barr (16 : Nat) (zB (hdE b) (gD b)) ::
                                                                      List.replicate (nat_lit 0)
                                                                        (V.barr (16 : Nat)
                                                                          (List.replicate (16 : Nat) (0 : UInt8))) ++
                                                                    (List.take
                                                                        (IntKind.i64.wrap ((↑s.length : Int) - (1 : Int)) +
                                                                            (1 : Int)).toNat
                                                                        s).reverse,
                                                                t := t }).length :
 Int)))
 (43 : Int) (zI (hdE b) (gHp b)) (zB (hdE b) (gS b))
 (toA (s.getD (0 : Nat) V.undef)) ++
 srP
                                                  { nx := zI (hdE b) (gNx b), lf := (↑s.length : Int), fl := (0 : Int),
                                                    tg := (0 : Int),
                                                    s :=
                                                      V.barr (16 : Nat) (zB (hdE b) (gD b)) ::
                                                          List.replicate (nat_lit 0)
                                                            (V.barr (16 : Nat) (List.replicate (16 : Nat) (0 : UInt8))) ++
                                                        (List.take
                                                            (IntKind.i64.wrap ((↑s.length : Int) - (1 : Int)) +
                                                                (1 : Int)).toNat
                                                            s).reverse,
                                                    t := t } ++
 cutL b (40 : Nat) b.length)),
 V.int IntKind.i64 (0 : Int)])
 else none
 else none
 else none
 else none
 else none
 else none := by kernel_rfl

end Go.Proofs.Ytbojofchpnfnlaa

namespace Go.Proofs.Ytbojofchpnfnlaa
open Go Go.Am Go.RowKit Go.Mix Go.Bas
set_option maxRecDepth 100000
theorem inB_no' {b : List UInt8} {s t : List V} {e : Int} (h : inE b s t = e) (he : e ≠ 0) : inB b s t = [] := inB_no (by rw [h]; exact he)
theorem rDtIns_v (b : List UInt8) (s t : List V) (hb : (decide (b.length ≤ 140737488352000 ∧ t.length ≤ 4611686018427387904) && (isB16 s && okS s)) = true) : callV Edtm af_rDtIns [.bytes b, .rows (.barr 16) s, .rows (.agg [.int .i64, .bytes]) t] = some (.tup [.ownv 5 (.bytes (inB b s t)), .int .i64 (inE b s t)]) := by
  obtain ⟨hl, hS⟩ := (Bool.and_eq_true _ _).mp hb
  obtain ⟨hl, htl⟩ := of_decide_eq_true hl
  obtain ⟨hb16, hok⟩ := (Bool.and_eq_true _ _).mp hS
  rw [rDtIns_t]
  clear hb hS
  by_cases h0 : hdE b = 0
  · have z3 : ∀ x, zI (hdE b) x = x := fun x => if_pos h0
    have z4 : ∀ x, zB (hdE b) x = x := fun x => if_pos h0
    have eM : ∀ (x y : V), x :: List.replicate (nat_lit 0) y = [x] := fun _ _ => rfl
    have rE : ∀ x y : Int, rwE b x y 0 = wkE b x y := fun _ _ => rfl
    have rV : ∀ x y : Int, rwV b x y 0 = wkV b x y := fun _ _ => rfl
    simp only [z3, z4, eM, rE, rV, cutL_all, Nat.mul_one]
    by_cases h1 : gNx b = 43
    · have e : inE b s t = 7 := by unfold inE; rw [if_neg (by simpa using h0), if_pos (.inl h1)]
      rw [e, inB_no' e (by decide)]
      simp (disch := omega) only [dec_t, dec_f, inB_t, inC_t, andT_t, cond_true, cond_false, Bool.and_true, Bool.true_and, w64, wu32, wu8, nble_t, nblt_t, Bool.not_true, Bool.not_false, Bool.not_not, ieq_t, ieq_f, ine_t, ine_f, true_and, and_true, andT_l]
    · by_cases h2 : gNx b = 0
      · have e : inE b s t = 7 := by unfold inE; rw [if_neg (by simpa using h0), if_pos (.inr h2)]
        rw [e, inB_no' e (by decide)]
        simp (disch := omega) only [dec_t, dec_f, inB_t, inC_t, andT_t, cond_true, cond_false, Bool.and_true, Bool.true_and, w64, wu32, wu8, nble_t, nblt_t, Bool.not_true, Bool.not_false, Bool.not_not, ieq_t, ieq_f, ine_t, ine_f, true_and, and_true, andT_l]
      · by_cases h3 : s.length = 0 ∨ 9 < s.length
        · have e : inE b s t = 8 := by unfold inE; rw [if_neg (by simpa using h0), if_neg (by omega), if_pos h3]
          rw [e, inB_no' e (by decide)]
          rcases h3 with h3 | h3
          · simp (disch := omega) only [dec_t, dec_f, inB_t, inC_t, andT_t, cond_true, cond_false, Bool.and_true, Bool.true_and, w64, wu32, wu8, nble_t, nblt_t, Bool.not_true, Bool.not_false, Bool.not_not, ieq_t, ieq_f, ine_t, ine_f, true_and, and_true, andT_l]
          · simp (disch := omega) only [dec_t, dec_f, inB_t, inC_t, andT_t, cond_true, cond_false, Bool.and_true, Bool.true_and, w64, wu32, wu8, nble_t, nblt_t, Bool.not_true, Bool.not_false, Bool.not_not, ieq_t, ieq_f, ine_t, ine_f, true_and, and_true, andT_l]
        · have h4 : 0 < s.length := by omega
          have h5 : s.length ≤ 9 := by omega
          have ew : IntKind.i64.wrap ((s.length : Int) - 1) = (s.length : Int) - 1 := w64 (by omega) (by omega)
          have ex : ((s.length : Int) - 1 + 1).toNat = s.length := by omega
          have eV : [V.barr 16 (gD b)] ++ s.reverse = viaR b s := by simp [viaR]
          have eC : srC (gNx b) (s.length : Int) 0 0 (viaR b s) t = inC0 b s t := rfl
          have eX : srP ⟨gNx b, (s.length : Int), 0, 0, viaR b s, t⟩ = inX b s t := rfl
          have hO : okS (viaR b s) = true := okS_app (x := gD b) hok (gD_16 b)
          have h1l : [V.barr 16 (gD b)].length = 1 := rfl
          simp only [ew, ex, List.take_length, eV, eC, eX, hb16, hO, h1l, Bool.and_true]
          have hX := inX_len b s t
          have h40 := gE_40 (hdE_zero h0).1
          have hln := (hdE_zero h0).2
          rw [hln]
          clear eM ew ex eV eC eX hO hb16 hok h1l z3 z4 rE rV
          have hxw : IntKind.i64.wrap ((b.length : Int) - 40 + ((inX b s t).length : Int)) = ((inX b s t).length : Int) + ((b.length : Int) - 40) := by rw [w64 (by omega) (by omega)]; omega
          rw [hxw]
          have hg := hdX_len (gC b) (gLa b) (((inX b s t).length : Int) + ((b.length : Int) - 40)) 43 (gHp b) (gS b) (toA (s.getD 0 .undef))
          have hg1 : (hdX (gC b) (gLa b) (((inX b s t).length : Int) + ((b.length : Int) - 40)) 43 (gHp b) (gS b) (toA (s.getD 0 .undef)) ++ inX b s t).length ≤ 140737488355328 := by rw [List.length_append]; omega
          have hg2 : (hdX (gC b) (gLa b) (((inX b s t).length : Int) + ((b.length : Int) - 40)) 43 (gHp b) (gS b) (toA (s.getD 0 .undef)) ++ inX b s t ++ b.drop 40).length ≤ 140737488355328 := by rw [List.length_append, List.length_append, List.length_drop]; omega
          by_cases h6 : wkE b (gNx b) 40 = 0
          · by_cases h7 : 8 < (wkV b (gNx b) 40).length
            · have e : inE b s t = 8 := by unfold inE; rw [if_neg (by simpa using h0), if_neg (by omega), if_neg h3, if_pos ⟨h6, h7⟩]
              rw [e, inB_no' e (by decide)]
              simp (disch := omega) only [dec_t, dec_f, inB_t, inC_t, andT_t, cond_true, cond_false, Bool.and_true, Bool.true_and, w64, wu32, wu8, nble_t, nblt_t, Bool.not_true, Bool.not_false, Bool.not_not, ieq_t, ieq_f, ine_t, ine_f, true_and, and_true, andT_l]
            · by_cases h8 : inC0 b s t = 0
              · by_cases h9 : 1500 < b.length + (inX b s t).length
                · have e : inE b s t = 4 := by unfold inE; rw [if_neg (by simpa using h0), if_neg (by omega), if_neg h3, if_neg (fun h => h7 h.2), if_neg (by simpa using h8), if_pos h9]
                  rw [e, inB_no' e (by decide)]
                  simp (disch := omega) only [dec_t, dec_f, inB_t, inC_t, andT_t, cond_true, cond_false, Bool.and_true, Bool.true_and, w64, wu32, wu8, nble_t, nblt_t, Bool.not_true, Bool.not_false, Bool.not_not, ieq_t, ieq_f, ine_t, ine_f, true_and, and_true, andT_l]
                · have e : inE b s t = 0 := by unfold inE; rw [if_neg (by simpa using h0), if_neg (by omega), if_neg h3, if_neg (fun h => h7 h.2), if_neg (by simpa using h8), if_neg h9]
                  unfold inB
                  rw [e, if_pos rfl, ← List.append_assoc]
                  simp (disch := omega) only [dec_t, dec_f, inB_t, inC_t, andT_t, cond_true, cond_false, Bool.and_true, Bool.true_and, w64, wu32, wu8, nble_t, nblt_t, Bool.not_true, Bool.not_false, Bool.not_not, ieq_t, ieq_f, ine_t, ine_f, true_and, and_true, andT_l]
              · have e : inE b s t = inC0 b s t := by unfold inE; rw [if_neg (by simpa using h0), if_neg (by omega), if_neg h3, if_neg (fun h => h7 h.2), if_pos h8]
                rw [e, inB_no' e h8]
                simp (disch := omega) only [dec_t, dec_f, inB_t, inC_t, andT_t, cond_true, cond_false, Bool.and_true, Bool.true_and, w64, wu32, wu8, nble_t, nblt_t, Bool.not_true, Bool.not_false, Bool.not_not, ieq_t, ieq_f, ine_t, ine_f, true_and, and_true, andT_l]
          · by_cases h8 : inC0 b s t = 0
            · by_cases h9 : 1500 < b.length + (inX b s t).length
              · have e : inE b s t = 4 := by unfold inE; rw [if_neg (by simpa using h0), if_neg (by omega), if_neg h3, if_neg (fun h => h6 h.1), if_neg (by simpa using h8), if_pos h9]
                rw [e, inB_no' e (by decide)]
                simp (disch := omega) only [dec_t, dec_f, inB_t, inC_t, andT_t, cond_true, cond_false, Bool.and_true, Bool.true_and, w64, wu32, wu8, nble_t, nblt_t, Bool.not_true, Bool.not_false, Bool.not_not, ieq_t, ieq_f, ine_t, ine_f, true_and, and_true, andT_l]
              · have e : inE b s t = 0 := by unfold inE; rw [if_neg (by simpa using h0), if_neg (by omega), if_neg h3, if_neg (fun h => h6 h.1), if_neg (by simpa using h8), if_neg h9]
                unfold inB
                rw [e, if_pos rfl, ← List.append_assoc]
                simp (disch := omega) only [dec_t, dec_f, inB_t, inC_t, andT_t, cond_true, cond_false, Bool.and_true, Bool.true_and, w64, wu32, wu8, nble_t, nblt_t, Bool.not_true, Bool.not_false, Bool.not_not, ieq_t, ieq_f, ine_t, ine_f, true_and, and_true, andT_l]
            · have e : inE b s t = inC0 b s t := by unfold inE; rw [if_neg (by simpa using h0), if_neg (by omega), if_neg h3, if_neg (fun h => h6 h.1), if_pos h8]
              rw [e, inB_no' e h8]
              simp (disch := omega) only [dec_t, dec_f, inB_t, inC_t, andT_t, cond_true, cond_false, Bool.and_true, Bool.true_and, w64, wu32, wu8, nble_t, nblt_t, Bool.not_true, Bool.not_false, Bool.not_not, ieq_t, ieq_f, ine_t, ine_f, true_and, and_true, andT_l]
  · have e : inE b s t = hdE b := by unfold inE; rw [if_pos h0]
    rw [e, inB_no' e h0]
    simp (disch := omega) only [dec_t, dec_f, inB_t, inC_t, andT_t, cond_true, cond_false, Bool.and_true, Bool.true_and, w64, wu32, wu8, nble_t, nblt_t, Bool.not_true, Bool.not_false, Bool.not_not, ieq_t, ieq_f, ine_t, ine_f, true_and, and_true, andT_l]
theorem rDtIns_con : ∀ vs v, cIns vs = some (v, true) → SpecV Try.prog 34 vs v := by
  intro vs v h; unfold cIns at h; split at h
  · rename_i b s t
    injection h with h; injection h with h hb; subst h
    exact callV_ok Edtm_ok af_rDtIns_ok (rDtIns_v b s t hb)
  · cases h
end Go.Proofs.Ytbojofchpnfnlaa

namespace Go.Proofs.Ytbojofchpnfnlaa
open Go Go.Am Go.RowKit Go.Mix Go.Bas
set_option maxRecDepth 100000
theorem cutL_self {l : List UInt8} (h : l.length = 16) : cutL l 0 16 = l := by
  unfold cutL
  rw [List.drop_zero, List.take_of_length_le (by omega)]
theorem cutL_drop {α : Type} (l : List α) {i j : Nat} (h : i ≤ j) : cutL l i j ++ l.drop j = l.drop i := by
  unfold cutL
  have e : l.drop j = (l.drop i).drop (j - i) := by rw [List.drop_drop]; congr 1; omega
  rw [e, List.take_append_drop]
theorem hdX_eq {c la ln nx hp : Int} {s d : List UInt8} (h : okX c la ln nx hp) (hs : s.length = 16) (hd : d.length = 16) : hdX c la ln nx hp s d = hd8 c la ln nx hp ++ (s ++ d) := by
  unfold hdX
  rw [if_pos h, cutL_self hs, cutL_self hd]
structure HdF (x : List UInt8) (c la ln nx hp : Int) (s d r : List UInt8) : Prop where
  e : gE x = 0
  c : gC x = c
  la : gLa x = la
  ln : gLn x = ln
  nx : gNx x = nx
  hp : gHp x = hp
  s : gS x = s
  d : gD x = d
  q : x.drop 40 = r
  l : x.length = 40 + r.length
theorem hd_back {c la ln nx hp : Int} {s d : List UInt8} (h : okX c la ln nx hp) (hs : s.length = 16) (hd : d.length = 16) (r : List UInt8) : HdF (hdX c la ln nx hp s d ++ r) c la ln nx hp s d r := by
  have e0 : hdX c la ln nx hp s d ++ r = hd8 c la ln nx hp ++ (s ++ (d ++ r)) := by rw [hdX_eq h hs hd]; simp
  generalize hdX c la ln nx hp s d ++ r = x at e0
  have h8 : (hd8 c la ln nx hp).length = 8 := rfl
  have hl : x.length = 40 + r.length := by rw [e0, List.length_append, List.length_append, List.length_append, hs, hd, h8]; omega
  obtain ⟨h1, h2, h3, h4, h5⟩ := h
  have k0 : gt x 0 = (96 + c / 16) % 256 := by rw [e0]; exact b8_toNat _
  have k1 : gt x 1 = (c % 16 * 16 + la / 65536) % 256 := by rw [e0]; exact b8_toNat _
  have k2 : gt x 2 = (la / 256) % 256 := by rw [e0]; exact b8_toNat _
  have k3 : gt x 3 = la % 256 := by rw [e0]; exact b8_toNat _
  have k4 : gt x 4 = (ln / 256) % 256 := by rw [e0]; exact b8_toNat _
  have k5 : gt x 5 = ln % 256 := by rw [e0]; exact b8_toNat _
  have k6 : gt x 6 = nx % 256 := by rw [e0]; exact b8_toNat _
  have k7 : gt x 7 = hp % 256 := by rw [e0]; exact b8_toNat _
  have hE : gE x = 0 := by
    unfold gE
    rw [if_neg (by omega), if_neg (by rw [k0]; simp only [ne_eq, Decidable.not_not]; omega)]
  have z : ∀ y, gz x y = y := fun y => if_pos hE
  have zb : ∀ y, gzb x y = y := fun y => if_pos hE
  refine ⟨hE, ?_, ?_, ?_, ?_, ?_, ?_, ?_, ?_, hl⟩
  · unfold gC; rw [z]; omega
  · unfold gLa; rw [z]; omega
  · unfold gLn; rw [z]; omega
  · unfold gNx; rw [z]; omega
  · unfold gHp; rw [z]; omega
  · unfold gS
    rw [zb, e0]
    unfold cutL
    rw [← h8, List.drop_left, show 24 - (hd8 c la ln nx hp).length = s.length by rw [h8, hs], List.take_left]
  · unfold gD
    rw [zb, e0]
    unfold cutL
    rw [← List.append_assoc, show 24 = (hd8 c la ln nx hp ++ s).length by rw [List.length_append, h8, hs], List.drop_left, show 40 - (hd8 c la ln nx hp ++ s).length = d.length by rw [List.length_append, h8, hs, hd], List.take_left]
  · rw [e0, ← List.append_assoc, ← List.append_assoc, show 40 = (hd8 c la ln nx hp ++ s ++ d).length by rw [List.length_append, List.length_append, h8, hs, hd], List.drop_left]
theorem b8_is {n : Int} {x : UInt8} (h : n % 256 = (x.toNat : Int)) : b8 n = x := by
  unfold b8
  rw [h, Int.toNat_natCast]
  exact UInt8.ofNat_toNat
theorem eight {b : List UInt8} (h : 8 ≤ b.length) : ∃ x0 x1 x2 x3 x4 x5 x6 x7 r, b = x0 :: x1 :: x2 :: x3 :: x4 :: x5 :: x6 :: x7 :: r := by
  match b, h with
  | x0 :: x1 :: x2 :: x3 :: x4 :: x5 :: x6 :: x7 :: r, _ => exact ⟨_, _, _, _, _, _, _, _, _, rfl⟩
theorem hd_self {b : List UInt8} (h : gE b = 0) : hdX (gC b) (gLa b) (gLn b) (gNx b) (gHp b) (gS b) (gD b) ++ b.drop 40 = b := by
  have h40 := gE_40 h
  rw [hdX_eq (g_bds b) (gS_16 b) (gD_16 b)]
  have z : ∀ y, gz b y = y := fun y => if_pos h
  have zb : ∀ y, gzb b y = y := fun y => if_pos h
  have h6 : gt b 0 / 16 = 6 := by
    unfold gE at h
    rw [if_neg (by omega)] at h
    split at h
    · cases h
    · rename_i h1; simpa using h1
  simp only [gC, gLa, gLn, gNx, gHp, gS, gD, z, zb]
  rw [List.append_assoc, List.append_assoc, cutL_drop b (by omega), cutL_drop b (by omega)]
  obtain ⟨x0, x1, x2, x3, x4, x5, x6, x7, r, rfl⟩ := eight (by omega : 8 ≤ b.length)
  generalize hB : x0 :: x1 :: x2 :: x3 :: x4 :: x5 :: x6 :: x7 :: r = b at *
  have k0 : gt b 0 = (x0.toNat : Int) := by rw [← hB]; rfl
  have k1 : gt b 1 = (x1.toNat : Int) := by rw [← hB]; rfl
  have k2 : gt b 2 = (x2.toNat : Int) := by rw [← hB]; rfl
  have k3 : gt b 3 = (x3.toNat : Int) := by rw [← hB]; rfl
  have k4 : gt b 4 = (x4.toNat : Int) := by rw [← hB]; rfl
  have k5 : gt b 5 = (x5.toNat : Int) := by rw [← hB]; rfl
  have k6 : gt b 6 = (x6.toNat : Int) := by rw [← hB]; rfl
  have k7 : gt b 7 = (x7.toNat : Int) := by rw [← hB]; rfl
  have t0 := x0.toNat_lt
  have t1 := x1.toNat_lt
  have t2 := x2.toNat_lt
  have t3 := x3.toNat_lt
  have t4 := x4.toNat_lt
  have t5 := x5.toNat_lt
  have t6 := x6.toNat_lt
  have t7 := x7.toNat_lt
  unfold hd8
  rw [b8_is (x := x0) (by omega), b8_is (x := x1) (by omega), b8_is (x := x2) (by omega), b8_is (x := x3) (by omega), b8_is (x := x4) (by omega), b8_is (x := x5) (by omega), b8_is (x := x6) (by omega), b8_is (x := x7) (by omega)]
  rw [← hB]
  rfl
structure InF (b : List UInt8) (s t : List V) : Prop where
  h0 : hdE b = 0
  n43 : gNx b ≠ 43
  n0 : gNx b ≠ 0
  s1 : 1 ≤ s.length
  s9 : s.length ≤ 9
  c0 : inC0 b s t = 0
  l : b.length + (inX b s t).length ≤ 1500
theorem inF {b : List UInt8} {s t : List V} (h : inE b s t = 0) : InF b s t := by
  unfold inE at h
  split at h; · rename_i h1; exact absurd h h1
  split at h; · cases h
  split at h; · cases h
  split at h; · cases h
  split at h; · rename_i h1; exact absurd h h1
  split at h; · cases h
  rename_i a1 a2 a3 a4 a5 a6
  exact ⟨by simpa using a1, fun e => a2 (.inl e), fun e => a2 (.inr e), by omega, by omega, by simpa using a5, by omega⟩
/-- a packet by way of others: what it is -/
structure BkF (b : List UInt8) (s t : List V) (x : List UInt8) : Prop where
  hd : HdF x (gC b) (gLa b) ((x.length : Int) - 40) 43 (gHp b) (gS b) (toA (s.getD 0 .undef)) (inX b s t ++ b.drop 40)
  r0 : rtE x = 0
  n : sN (x.drop 40) = gNx b
  left : sL (x.drop 40) = s.length
  sg : sS (x.drop 40) = viaR b s
  z : sZ (x.drop 40) = (inX b s t).length
  l : x.length = b.length + (inX b s t).length
theorem ok_get {s : List V} (h : okS s = true) {i : Nat} (hi : i < s.length) : (toA (s.getD i .undef)).length = 16 := by
  have hm : s.getD i .undef ∈ s := by
    rw [List.getD_eq_getElem?_getD, List.getElem?_eq_getElem hi]
    exact List.getElem_mem hi
  exact Nat.eq_of_beq_eq_true (List.all_eq_true.1 h _ hm)
theorem bkF {b : List UInt8} {s t : List V} (h : inE b s t = 0) (hok : okS s = true) (hv : ∀ v ∈ s, v = .barr 16 (toA v)) (ht : ∀ v ∈ t, ∃ (k : Int) (d : List UInt8), v = .agg [.int .i64 k, .bytes d]) : BkF b s t (inB b s t) := by
  have f := inF h
  have hb := g_bds b
  have h40 := gE_40 (hdE_zero f.h0).1
  have hln := (hdE_zero f.h0).2
  have hfl := f.l
  have hl0 : (b.drop 40).length = b.length - 40 := List.length_drop ..
  have he : inB b s t = hdX (gC b) (gLa b) ((inX b s t).length + ((b.length : Int) - 40)) 43 (gHp b) (gS b) (toA (s.getD 0 .undef)) ++ (inX b s t ++ b.drop 40) := if_pos h
  have hd := hd_back (c := gC b) (la := gLa b) (ln := (inX b s t).length + ((b.length : Int) - 40)) (nx := 43) (hp := gHp b) (s := gS b) (d := toA (s.getD 0 .undef)) ⟨by omega, by omega, by omega, by omega, by omega⟩ (gS_16 b) (ok_get hok (by have := f.s1; omega)) (inX b s t ++ b.drop 40)
  rw [← he] at hd
  have hl : (inB b s t).length = b.length + (inX b s t).length := by rw [hd.l, List.length_append, hl0]; omega
  have hln2 : ((inX b s t).length : Int) + ((b.length : Int) - 40) = ((inB b s t).length : Int) - 40 := by omega
  rw [hln2] at hd
  have hvr : ∀ v ∈ viaR b s, v = .barr 16 (toA v) := by
    intro v hm
    unfold viaR at hm
    rw [List.mem_reverse, List.mem_append] at hm
    rcases hm with hm | hm
    · exact hv v hm
    · simp only [List.mem_singleton] at hm
      subst hm; rfl
  obtain ⟨k0, k1, k2, k3, k4, k5, k6, k7⟩ := srh_back ⟨gNx b, s.length, 0, 0, viaR b s, t⟩ f.c0 (okS_app (x := gD b) hok (gD_16 b)) hvr ht (b.drop 40)
  have eX : srP ⟨gNx b, s.length, 0, 0, viaR b s, t⟩ = inX b s t := rfl
  rw [eX] at k0 k1 k2 k3 k4 k5 k6 k7
  simp only at k1 k2 k3 k4 k5 k6
  have h0 : hdE (inB b s t) = 0 := by unfold hdE; rw [if_pos hd.e, if_pos hd.ln]
  have r0 : rtE (inB b s t) = 0 := by unfold rtE; rw [if_pos h0, if_pos hd.nx, hd.q, k0]
  refine ⟨hd, r0, ?_, ?_, ?_, ?_, hl⟩
  · rw [hd.q]; unfold sN; rw [k0, k1]; rfl
  · rw [hd.q]; unfold sL; rw [k0, k2]; rfl
  · rw [hd.q]; unfold sS; rw [k0, k5]; rfl
  · rw [hd.q]; unfold sZ; rw [k0, k7]; rfl
theorem viaR_0 (b : List UInt8) (s : List V) : (viaR b s).getD 0 .undef = .barr 16 (gD b) := by
  unfold viaR
  rw [List.reverse_append]
  rfl
theorem rm_back {b : List UInt8} {s t : List V} (h : inE b s t = 0) (f : BkF b s t (inB b s t)) : rmB (inB b s t) = b := by
  have g := inF h
  have hE := (hdE_zero g.h0).1
  have h40 := gE_40 hE
  have hln := (hdE_zero g.h0).2
  unfold rmB
  rw [if_pos f.r0, f.hd.c, f.hd.la, f.hd.hp, f.hd.s, f.n, f.sg, f.z, viaR_0]
  show hdX (gC b) (gLa b) _ (gNx b) (gHp b) (gS b) (gD b) ++ _ = b
  have e1 : ((inB b s t).length : Int) - 40 - ((inX b s t).length : Int) = gLn b := by rw [f.l]; omega
  have e2 : (inB b s t).drop (40 + ((inX b s t).length : Int)).toNat = b.drop 40 := by
    rw [show (40 + ((inX b s t).length : Int)).toNat = 40 + (inX b s t).length by omega, ← List.drop_drop, f.hd.q, List.drop_left]
  rw [e1, e2]
  exact hd_self hE
end Go.Proofs.Ytbojofchpnfnlaa

namespace Go.Proofs.Ytbojofchpnfnlaa
open Go Go.Am Go.RowKit Go.Mix Go.Bas
set_option maxRecDepth 100000
noncomputable def af_plain11 : AF := afOf Try.prog Try.f82 []
theorem af_plain11_ok : AllOk Try.prog 82 af_plain11 := .flat Try.func82 (by kernel_rfl) (by kernel_rfl) (by kernel_rfl) (by kernel_rfl) (by kernel_rfl)
noncomputable def af_deep11 : AF := afOf Try.prog Try.f81 [.unr 9]
theorem af_deep11_ok : AllOk Try.prog 81 af_deep11 := .flat Try.func81 (by kernel_rfl) (by kernel_rfl) (by kernel_rfl) (by kernel_rfl) (by kernel_rfl)
noncomputable def GEdtn : List (Nat × Con) := [(131, .app 5 aSxPut)]
theorem GEdtn_ok : GOk Try.prog GEdtn := .consA (enters_of Try.func131 (by kernel_rfl) rfl) sxPut_app <| .nil
noncomputable def IEdtn : List (Nat × AF) := []
theorem IEdtn_ok : IOk Try.prog IEdtn := .nil
noncomputable def CEdtn : List (Nat × (List Nat × (S → Option S))) := []
theorem CEdtn_ok : COk Try.prog CEdtn := .nil
noncomputable def XEdtn : List (Nat × (List Sh × (List V → PT))) := []
theorem XEdtn_ok : XOk Try.prog XEdtn := .nil
noncomputable def Edtn : Env := ⟨Try.prog, GEdtn, IEdtn, CEdtn, XEdtn⟩
theorem Edtn_ok : EnvOk Edtn := ⟨by kernel_rfl, GEdtn_ok, IEdtn_ok, CEdtn_ok, XEdtn_ok⟩
theorem plain11_t  : callV Edtn af_plain11 [] =
 some
 (V.ownv (5 : Nat)
 (V.bytes
 (hdX (0 : Int) (0 : Int) (3 : Int) (6 : Int) (9 : Int) (List.replicate (16 : Nat) (0 : UInt8))
 ((0 : UInt8) ::
 (0 : UInt8) ::
 (0 : UInt8) ::
 (0 : UInt8) ::
 (0 : UInt8) ::
 (0 : UInt8) ::
 (0 : UInt8) ::
 (0 : UInt8) ::
 (0 : UInt8) ::
 (0 : UInt8) ::
 (0 : UInt8) ::
 (0 : UInt8) ::
 (0 : UInt8) ::
 (0 : UInt8) ::
 (0 : UInt8) :: u8 (7 : Int) :: List.replicate (nat_lit 0) (0 : UInt8)) ++
 u8 (1 : Int) :: u8 (2 : Int) :: u8 (3 : Int) :: List.replicate (nat_lit 0) (0 : UInt8)))) := by kernel_rfl

theorem deep11_7  : callV Edtn af_deep11 [.int .i64 7] =
 some
 (V.ownv (5 : Nat)
 (V.bytes
 (hdX (0 : Int) (0 : Int) (59 : Int) (60 : Int) (9 : Int) (List.replicate (16 : Nat) (0 : UInt8))
 ((0 : UInt8) ::
 (0 : UInt8) ::
 (0 : UInt8) ::
 (0 : UInt8) ::
 (0 : UInt8) ::
 (0 : UInt8) ::
 (0 : UInt8) ::
 (0 : UInt8) ::
 (0 : UInt8) ::
 (0 : UInt8) ::
 (0 : UInt8) ::
 (0 : UInt8) ::
 (0 : UInt8) ::
 (0 : UInt8) ::
 (0 : UInt8) ::
 u8 (7 : Int) :: List.replicate (nat_lit 0) (0 : UInt8)) ++
 u8 (60 : Int) ::
 u8 (0 : Int) ::
 u8 (1 : Int) ::
 u8 (4 : Int) ::
 u8 (0 : Int) ::
 u8 (0 : Int) ::
 u8 (0 : Int) :: u8 (0 : Int) :: List.replicate (nat_lit 0) (0 : UInt8) ++
 u8 (60 : Int) ::
 u8 (0 : Int) ::
 u8 (1 : Int) ::
 u8 (4 : Int) ::
 u8 (0 : Int) ::
 u8 (0 : Int) :: u8 (0 : Int) :: u8 (0 : Int) :: List.replicate (nat_lit 0) (0 : UInt8) ++
 u8 (60 : Int) ::
 u8 (0 : Int) ::
 u8 (1 : Int) ::
 u8 (4 : Int) ::
 u8 (0 : Int) ::
 u8 (0 : Int) :: u8 (0 : Int) :: u8 (0 : Int) :: List.replicate (nat_lit 0) (0 : UInt8) ++
 u8 (60 : Int) ::
 u8 (0 : Int) ::
 u8 (1 : Int) ::
 u8 (4 : Int) ::
 u8 (0 : Int) ::
 u8 (0 : Int) :: u8 (0 : Int) :: u8 (0 : Int) :: List.replicate (nat_lit 0) (0 : UInt8) ++
 u8 (60 : Int) ::
 u8 (0 : Int) ::
 u8 (1 : Int) ::
 u8 (4 : Int) ::
 u8 (0 : Int) ::
 u8 (0 : Int) :: u8 (0 : Int) :: u8 (0 : Int) :: List.replicate (nat_lit 0) (0 : UInt8) ++
 u8 (60 : Int) ::
 u8 (0 : Int) ::
 u8 (1 : Int) ::
 u8 (4 : Int) ::
 u8 (0 : Int) ::
 u8 (0 : Int) :: u8 (0 : Int) :: u8 (0 : Int) :: List.replicate (nat_lit 0) (0 : UInt8) ++
 u8 (6 : Int) ::
 u8 (0 : Int) ::
 u8 (1 : Int) ::
 u8 (4 : Int) ::
 u8 (0 : Int) ::
 u8 (0 : Int) :: u8 (0 : Int) :: u8 (0 : Int) :: List.replicate (nat_lit 0) (0 : UInt8) ++
 u8 (1 : Int) :: u8 (2 : Int) :: u8 (3 : Int) :: List.replicate (nat_lit 0) (0 : UInt8)))) := by kernel_rfl

theorem deep11_8  : callV Edtn af_deep11 [.int .i64 8] =
 some
 (V.ownv (5 : Nat)
 (V.bytes
 (hdX (0 : Int) (0 : Int) (67 : Int) (60 : Int) (9 : Int) (List.replicate (16 : Nat) (0 : UInt8))
 ((0 : UInt8) ::
 (0 : UInt8) ::
 (0 : UInt8) ::
 (0 : UInt8) ::
 (0 : UInt8) ::
 (0 : UInt8) ::
 (0 : UInt8) ::
 (0 : UInt8) ::
 (0 : UInt8) ::
 (0 : UInt8) ::
 (0 : UInt8) ::
 (0 : UInt8) ::
 (0 : UInt8) ::
 (0 : UInt8) ::
 (0 : UInt8) ::
 u8 (7 : Int) :: List.replicate (nat_lit 0) (0 : UInt8)) ++
 u8 (60 : Int) ::
 u8 (0 : Int) ::
 u8 (1 : Int) ::
 u8 (4 : Int) ::
 u8 (0 : Int) ::
 u8 (0 : Int) ::
 u8 (0 : Int) :: u8 (0 : Int) :: List.replicate (nat_lit 0) (0 : UInt8) ++
 u8 (60 : Int) ::
 u8 (0 : Int) ::
 u8 (1 : Int) ::
 u8 (4 : Int) ::
 u8 (0 : Int) ::
 u8 (0 : Int) ::
 u8 (0 : Int) :: u8 (0 : Int) :: List.replicate (nat_lit 0) (0 : UInt8) ++
 u8 (60 : Int) ::
 u8 (0 : Int) ::
 u8 (1 : Int) ::
 u8 (4 : Int) ::
 u8 (0 : Int) ::
 u8 (0 : Int) :: u8 (0 : Int) :: u8 (0 : Int) :: List.replicate (nat_lit 0) (0 : UInt8) ++
 u8 (60 : Int) ::
 u8 (0 : Int) ::
 u8 (1 : Int) ::
 u8 (4 : Int) ::
 u8 (0 : Int) ::
 u8 (0 : Int) :: u8 (0 : Int) :: u8 (0 : Int) :: List.replicate (nat_lit 0) (0 : UInt8) ++
 u8 (60 : Int) ::
 u8 (0 : Int) ::
 u8 (1 : Int) ::
 u8 (4 : Int) ::
 u8 (0 : Int) ::
 u8 (0 : Int) :: u8 (0 : Int) :: u8 (0 : Int) :: List.replicate (nat_lit 0) (0 : UInt8) ++
 u8 (60 : Int) ::
 u8 (0 : Int) ::
 u8 (1 : Int) ::
 u8 (4 : Int) ::
 u8 (0 : Int) ::
 u8 (0 : Int) :: u8 (0 : Int) :: u8 (0 : Int) :: List.replicate (nat_lit 0) (0 : UInt8) ++
 u8 (60 : Int) ::
 u8 (0 : Int) ::
 u8 (1 : Int) ::
 u8 (4 : Int) ::
 u8 (0 : Int) ::
 u8 (0 : Int) :: u8 (0 : Int) :: u8 (0 : Int) :: List.replicate (nat_lit 0) (0 : UInt8) ++
 u8 (6 : Int) ::
 u8 (0 : Int) ::
 u8 (1 : Int) ::
 u8 (4 : Int) ::
 u8 (0 : Int) ::
 u8 (0 : Int) :: u8 (0 : Int) :: u8 (0 : Int) :: List.replicate (nat_lit 0) (0 : UInt8) ++
 u8 (1 : Int) :: u8 (2 : Int) :: u8 (3 : Int) :: List.replicate (nat_lit 0) (0 : UInt8)))) := by kernel_rfl

def plainB : List UInt8 := [96, 0, 0, 0, 0, 3, 6, 9, 0, 0, 0, 0, 0, 0, 0, 0, 0, 0, 0, 0, 0, 0, 0, 0, 0, 0, 0, 0, 0, 0, 0, 0, 0, 0, 0, 0, 0, 0, 0, 7, 1, 2, 3]
def deep7 : List UInt8 := [96, 0, 0, 0, 0, 59, 60, 9, 0, 0, 0, 0, 0, 0, 0, 0, 0, 0, 0, 0, 0, 0, 0, 0, 0, 0, 0, 0, 0, 0, 0, 0, 0, 0, 0, 0, 0, 0, 0, 7, 60, 0, 1, 4, 0, 0, 0, 0, 60, 0, 1, 4, 0, 0, 0, 0, 60, 0, 1, 4, 0, 0, 0, 0, 60, 0, 1, 4, 0, 0, 0, 0, 60, 0, 1, 4, 0, 0, 0, 0, 60, 0, 1, 4, 0, 0, 0, 0, 6, 0, 1, 4, 0, 0, 0, 0, 1, 2, 3]
def deep8 : List UInt8 := [96, 0, 0, 0, 0, 67, 60, 9, 0, 0, 0, 0, 0, 0, 0, 0, 0, 0, 0, 0, 0, 0, 0, 0, 0, 0, 0, 0, 0, 0, 0, 0, 0, 0, 0, 0, 0, 0, 0, 7, 60, 0, 1, 4, 0, 0, 0, 0, 60, 0, 1, 4, 0, 0, 0, 0, 60, 0, 1, 4, 0, 0, 0, 0, 60, 0, 1, 4, 0, 0, 0, 0, 60, 0, 1, 4, 0, 0, 0, 0, 60, 0, 1, 4, 0, 0, 0, 0, 60, 0, 1, 4, 0, 0, 0, 0, 6, 0, 1, 4, 0, 0, 0, 0, 1, 2, 3]
def deepB (n : Int) : List UInt8 := if n = 7 then deep7 else deep8
def way1 : List V := [.barr 16 [0, 0, 0, 0, 0, 0, 0, 0, 0, 0, 0, 0, 0, 0, 0, 1]]
def cPlain11 : List V → Option (V × Bool)
  | [] => some (.ownv 5 (.bytes plainB), true)
  | _ => none
theorem plain11_con : ∀ vs v, cPlain11 vs = some (v, true) → SpecV Try.prog 82 vs v := by
  intro vs v h; unfold cPlain11 at h; split at h
  · injection h with h; injection h with h hb; subst h
    exact callV_ok Edtn_ok af_plain11_ok ((show callV Edtn af_plain11 [] = some (.ownv 5 (.bytes plainB)) from by rw [plain11_t]; kernel_rfl))
  · cases h
def cDeep11 : List V → Option (V × Bool)
  | [.int .i64 n] => some (.ownv 5 (.bytes (deepB n)), decide (n = 7 ∨ n = 8))
  | _ => none
theorem deep11_v (n : Int) (h : n = 7 ∨ n = 8) : callV Edtn af_deep11 [.int .i64 n] = some (.ownv 5 (.bytes (deepB n))) := by
  rcases h with rfl | rfl
  · rw [deep11_7]; kernel_rfl
  · rw [deep11_8]; kernel_rfl
theorem deep11_con : ∀ vs v, cDeep11 vs = some (v, true) → SpecV Try.prog 81 vs v := by
  intro vs v h; unfold cDeep11 at h; split at h
  · rename_i n
    injection h with h; injection h with h hb; subst h
    exact callV_ok Edtn_ok af_deep11_ok (deep11_v n (of_decide_eq_true hb))
  · cases h
noncomputable def af_lives11 : AF := afOf Try.prog Try.f32 []
theorem af_lives11_ok : AllOk Try.prog 32 af_lives11 := .flat Try.func32 (by kernel_rfl) (by kernel_rfl) (by kernel_rfl) (by kernel_rfl) (by kernel_rfl)
noncomputable def GEdto : List (Nat × Con) := [(82, .val [] cPlain11), (81, .val [.int .i64] cDeep11), (33, .val [.bytes, .rows (.barr 16), .rows (.agg [.int .i64, .bytes])] cIns), (35, .val [.bytes] cRem), (36, .val [.bytes] cHdr)]
theorem GEdto_ok : GOk Try.prog GEdto := .cons (enters_of Try.func82 (by kernel_rfl) rfl) plain11_con <| .cons (enters_of Try.func81 (by kernel_rfl) rfl) deep11_con <| .cons (enters_of Try.func33 (by kernel_rfl) rfl) dtIns2_con <| .cons (enters_of Try.func35 (by kernel_rfl) rfl) dtRem2_con <| .cons (enters_of Try.func36 (by kernel_rfl) rfl) dtHdr_con <| .nil
noncomputable def IEdto : List (Nat × AF) := []
theorem IEdto_ok : IOk Try.prog IEdto := .nil
noncomputable def CEdto : List (Nat × (List Nat × (S → Option S))) := []
theorem CEdto_ok : COk Try.prog CEdto := .nil
noncomputable def XEdto : List (Nat × (List Sh × (List V → PT))) := []
theorem XEdto_ok : XOk Try.prog XEdto := .nil
noncomputable def Edto : Env := ⟨Try.prog, GEdto, IEdto, CEdto, XEdto⟩
theorem Edto_ok : EnvOk Edto := ⟨by kernel_rfl, GEdto_ok, IEdto_ok, CEdto_ok, XEdto_ok⟩
theorem lives11_t  : callV Edto af_lives11 [] =
 some (V.bool true) := by kernel_rfl

def cLives11 : List V → Option (V × Bool)
  | [] => some (.bool true, true)
  | _ => none
theorem lives11_con : ∀ vs v, cLives11 vs = some (v, true) → SpecV Try.prog 32 vs v := by
  intro vs v h; unfold cLives11 at h; split at h
  · injection h with h; injection h with h hb; subst h
    exact callV_ok Edto_ok af_lives11_ok (lives11_t)
  · cases h
end Go.Proofs.Ytbojofchpnfnlaa

namespace Go.Proofs.Ytbojofchpnfnlaa
open Go Go.Am Go.RowKit Go.Mix Go.Bas
set_option maxRecDepth 100000
noncomputable def af_DetourTakes : AF := afOf Try.prog Try.f10 []
theorem af_DetourTakes_ok : AllOk Try.prog 10 af_DetourTakes := .flat Try.func10 (by kernel_rfl) (by kernel_rfl) (by kernel_rfl) (by kernel_rfl) (by kernel_rfl)
noncomputable def af_DetourInserts : AF := afOf Try.prog Try.f8 []
theorem af_DetourInserts_ok : AllOk Try.prog 8 af_DetourInserts := .flat Try.func8 (by kernel_rfl) (by kernel_rfl) (by kernel_rfl) (by kernel_rfl) (by kernel_rfl)
noncomputable def af_DetourBack : AF := afOf Try.prog Try.f9 []
theorem af_DetourBack_ok : AllOk Try.prog 9 af_DetourBack := .flat Try.func9 (by kernel_rfl) (by kernel_rfl) (by kernel_rfl) (by kernel_rfl) (by kernel_rfl)
noncomputable def GEdtp : List (Nat × Con) := [(32, .val [] cLives11), (36, .val [.bytes] cHdr), (37, .val [.bytes] cHdr), (35, .val [.bytes] cRem), (38, .val [.bytes] cRem), (39, .val [.bytes] cAdv), (40, .val [.bytes] cAdv), (33, .val [.bytes, .rows (.barr 16), .rows (.agg [.int .i64, .bytes])] cIns), (34, .val [.bytes, .rows (.barr 16), .rows (.agg [.int .i64, .bytes])] cIns), (41, .val [.agg [.int .i64, .int .i64, .int .i64, .int .i64, .rows (.barr 16), .rows (.agg [.int .i64, .bytes])], .agg [.int .i64, .int .i64, .int .i64, .int .i64, .rows (.barr 16), .rows (.agg [.int .i64, .bytes])]] cSrhSame)]
theorem GEdtp_ok : GOk Try.prog GEdtp := .cons (enters_of Try.func32 (by kernel_rfl) rfl) lives11_con <| .cons (enters_of Try.func36 (by kernel_rfl) rfl) dtHdr_con <| .cons (enters_of Try.func37 (by kernel_rfl) rfl) rDtHdr_con <| .cons (enters_of Try.func35 (by kernel_rfl) rfl) dtRem2_con <| .cons (enters_of Try.func38 (by kernel_rfl) rfl) rDtRem_con <| .cons (enters_of Try.func39 (by kernel_rfl) rfl) dtAdv2_con <| .cons (enters_of Try.func40 (by kernel_rfl) rfl) rDtAdv_con <| .cons (enters_of Try.func33 (by kernel_rfl) rfl) dtIns2_con <| .cons (enters_of Try.func34 (by kernel_rfl) rfl) rDtIns_con <| .cons (enters_of Try.func41 (by kernel_rfl) rfl) srhSame_con <| .nil
noncomputable def IEdtp : List (Nat × AF) := []
theorem IEdtp_ok : IOk Try.prog IEdtp := .nil
noncomputable def CEdtp : List (Nat × (List Nat × (S → Option S))) := []
theorem CEdtp_ok : COk Try.prog CEdtp := .nil
noncomputable def XEdtp : List (Nat × (List Sh × (List V → PT))) := []
theorem XEdtp_ok : XOk Try.prog XEdtp := .nil
noncomputable def Edtp : Env := ⟨Try.prog, GEdtp, IEdtp, CEdtp, XEdtp⟩
theorem Edtp_ok : EnvOk Edtp := ⟨by kernel_rfl, GEdtp_ok, IEdtp_ok, CEdtp_ok, XEdtp_ok⟩
def sh_DetourTakes : List Sh := [.bytes]
def sh_DetourInserts : List Sh := [.bytes, .rows (.barr 16), .rows (.agg [.int .i64, .bytes])]
def sh_DetourBack : List Sh := [.bytes, .rows (.barr 16)]
theorem DetourTakes_t (b : List UInt8) : callV Edtp af_DetourTakes [.bytes b] =
 bif andT true (decide (b.length ≤ (140737488352000 : Nat))) then
 bif andT true (decide (b.length ≤ (140737488352000 : Nat))) then
 bif andT true (decide (b.length ≤ (140737488352000 : Nat))) then
 bif andT true (decide (b.length ≤ (140737488352000 : Nat))) then
 bif andT true (decide (b.length ≤ (140737488352000 : Nat))) then
 bif andT true (decide (b.length ≤ (140737488352000 : Nat))) then
 bif zI (rtE b) (sZ (List.drop (40 : Nat) b)) == zI (rtE b) (sZ (List.drop (40 : Nat) b)) then
 bif rtE b == rtE b then
 bif rmB b == rmB b then
 bif rtE b == rtE b then
 bif avB b == avB b then
 bif avE b == avE b then
 bif
 andT true
 (eqVh
                                        { nx := zI (rtE b) (sN (List.drop (40 : Nat) b)),
                                          lf := zI (rtE b) (sL (List.drop (40 : Nat) b)),
                                          fl := zI (rtE b) (sF (List.drop (40 : Nat) b)),
                                          tg := zI (rtE b) (sT (List.drop (40 : Nat) b)),
                                          s := zV (rtE b) (sS (List.drop (40 : Nat) b)),
                                          t := zV (rtE b) (sP (List.drop (40 : Nat) b)) }
                                        { nx := zI (rtE b) (sN (List.drop (40 : Nat) b)),
                                          lf := zI (rtE b) (sL (List.drop (40 : Nat) b)),
                                          fl := zI (rtE b) (sF (List.drop (40 : Nat) b)),
                                          tg := zI (rtE b) (sT (List.drop (40 : Nat) b)),
                                          s := zV (rtE b) (sS (List.drop (40 : Nat) b)),
                                          t := zV (rtE b) (sP (List.drop (40 : Nat) b)) } &&
 decide
 ((zV (rtE b) (sS (List.drop (40 : Nat) b))).length ≤ (4611686018427387904 : Nat) ∧
 (zV (rtE b) (sP (List.drop (40 : Nat) b))).length ≤
 (4611686018427387904 : Nat))) then
 some (V.bool true)
 else none
 else
 bif
 andT true
 (eqVh
                                        { nx := zI (rtE b) (sN (List.drop (40 : Nat) b)),
                                          lf := zI (rtE b) (sL (List.drop (40 : Nat) b)),
                                          fl := zI (rtE b) (sF (List.drop (40 : Nat) b)),
                                          tg := zI (rtE b) (sT (List.drop (40 : Nat) b)),
                                          s := zV (rtE b) (sS (List.drop (40 : Nat) b)),
                                          t := zV (rtE b) (sP (List.drop (40 : Nat) b)) }
                                        { nx := zI (rtE b) (sN (List.drop (40 : Nat) b)),
                                          lf := zI (rtE b) (sL (List.drop (40 : Nat) b)),
                                          fl := zI (rtE b) (sF (List.drop (40 : Nat) b)),
                                          tg := zI (rtE b) (sT (List.drop (40 : Nat) b)),
                                          s := zV (rtE b) (sS (List.drop (40 : Nat) b)),
                                          t := zV (rtE b) (sP (List.drop (40 : Nat) b)) } &&
 decide
 ((zV (rtE b) (sS (List.drop (40 : Nat) b))).length ≤ (4611686018427387904 : Nat) ∧
 (zV (rtE b) (sP (List.drop (40 : Nat) b))).length ≤
 (4611686018427387904 : Nat))) then
 some (V.bool false)
 else none
 else
 bif
 andT true
 (eqVh
                                      { nx := zI (rtE b) (sN (List.drop (40 : Nat) b)),
                                        lf := zI (rtE b) (sL (List.drop (40 : Nat) b)),
                                        fl := zI (rtE b) (sF (List.drop (40 : Nat) b)),
                                        tg := zI (rtE b) (sT (List.drop (40 : Nat) b)),
                                        s := zV (rtE b) (sS (List.drop (40 : Nat) b)),
                                        t := zV (rtE b) (sP (List.drop (40 : Nat) b)) }
                                      { nx := zI (rtE b) (sN (List.drop (40 : Nat) b)),
                                        lf := zI (rtE b) (sL (List.drop (40 : Nat) b)),
                                        fl := zI (rtE b) (sF (List.drop (40 : Nat) b)),
                                        tg := zI (rtE b) (sT (List.drop (40 : Nat) b)),
                                        s := zV (rtE b) (sS (List.drop (40 : Nat) b)),
                                        t := zV (rtE b) (sP (List.drop (40 : Nat) b)) } &&
 decide
 ((zV (rtE b) (sS (List.drop (40 : Nat) b))).length ≤ (4611686018427387904 : Nat) ∧
 (zV (rtE b) (sP (List.drop (40 : Nat) b))).length ≤
 (4611686018427387904 : Nat))) then
 some (V.bool false)
 else none
 else
 bif
 andT true
 (eqVh
                                    { nx := zI (rtE b) (sN (List.drop (40 : Nat) b)),
                                      lf := zI (rtE b) (sL (List.drop (40 : Nat) b)),
                                      fl := zI (rtE b) (sF (List.drop (40 : Nat) b)),
                                      tg := zI (rtE b) (sT (List.drop (40 : Nat) b)),
                                      s := zV (rtE b) (sS (List.drop (40 : Nat) b)),
                                      t := zV (rtE b) (sP (List.drop (40 : Nat) b)) }
                                    { nx := zI (rtE b) (sN (List.drop (40 : Nat) b)),
                                      lf := zI (rtE b) (sL (List.drop (40 : Nat) b)),
                                      fl := zI (rtE b) (sF (List.drop (40 : Nat) b)),
                                      tg := zI (rtE b) (sT (List.drop (40 : Nat) b)),
                                      s := zV (rtE b) (sS (List.drop (40 : Nat) b)),
                                      t := zV (rtE b) (sP (List.drop (40 : Nat) b)) } &&
 decide
 ((zV (rtE b) (sS (List.drop (40 : Nat) b))).length ≤ (4611686018427387904 : Nat) ∧
 (zV (rtE b) (sP (List.drop (40 : Nat) b))).length ≤ (4611686018427387904 : Nat))) then
 some (V.bool false)
 else none
 else
 bif
 andT true
 (eqVh
                                  { nx := zI (rtE b) (sN (List.drop (40 : Nat) b)),
                                    lf := zI (rtE b) (sL (List.drop (40 : Nat) b)),
                                    fl := zI (rtE b) (sF (List.drop (40 : Nat) b)),
                                    tg := zI (rtE b) (sT (List.drop (40 : Nat) b)),
                                    s := zV (rtE b) (sS (List.drop (40 : Nat) b)),
                                    t := zV (rtE b) (sP (List.drop (40 : Nat) b)) }
                                  { nx := zI (rtE b) (sN (List.drop (40 : Nat) b)),
                                    lf := zI (rtE b) (sL (List.drop (40 : Nat) b)),
                                    fl := zI (rtE b) (sF (List.drop (40 : Nat) b)),
                                    tg := zI (rtE b) (sT (List.drop (40 : Nat) b)),
                                    s := zV (rtE b) (sS (List.drop (40 : Nat) b)),
                                    t := zV (rtE b) (sP (List.drop (40 : Nat) b)) } &&
 decide
 ((zV (rtE b) (sS (List.drop (40 : Nat) b))).length ≤ (4611686018427387904 : Nat) ∧
 (zV (rtE b) (sP (List.drop (40 : Nat) b))).length ≤ (4611686018427387904 : Nat))) then
 some (V.bool false)
 else none
 else
 bif
 andT true
 (eqVh
                                { nx := zI (rtE b) (sN (List.drop (40 : Nat) b)),
                                  lf := zI (rtE b) (sL (List.drop (40 : Nat) b)),
                                  fl := zI (rtE b) (sF (List.drop (40 : Nat) b)),
                                  tg := zI (rtE b) (sT (List.drop (40 : Nat) b)),
                                  s := zV (rtE b) (sS (List.drop (40 : Nat) b)),
                                  t := zV (rtE b) (sP (List.drop (40 : Nat) b)) }
                                { nx := zI (rtE b) (sN (List.drop (40 : Nat) b)),
                                  lf := zI (rtE b) (sL (List.drop (40 : Nat) b)),
                                  fl := zI (rtE b) (sF (List.drop (40 : Nat) b)),
                                  tg := zI (rtE b) (sT (List.drop (40 : Nat) b)),
                                  s := zV (rtE b) (sS (List.drop (40 : Nat) b)),
                                  t := zV (rtE b) (sP (List.drop (40 : Nat) b)) } &&
 decide
 ((zV (rtE b) (sS (List.drop (40 : Nat) b))).length ≤ (4611686018427387904 : Nat) ∧
 (zV (rtE b) (sP (List.drop (40 : Nat) b))).length ≤ (4611686018427387904 : Nat))) then
 some (V.bool false)
 else none
 else
 bif
 andT true
 (eqVh
                              { nx := zI (rtE b) (sN (List.drop (40 : Nat) b)),
                                lf := zI (rtE b) (sL (List.drop (40 : Nat) b)),
                                fl := zI (rtE b) (sF (List.drop (40 : Nat) b)),
                                tg := zI (rtE b) (sT (List.drop (40 : Nat) b)),
                                s := zV (rtE b) (sS (List.drop (40 : Nat) b)),
                                t := zV (rtE b) (sP (List.drop (40 : Nat) b)) }
                              { nx := zI (rtE b) (sN (List.drop (40 : Nat) b)),
                                lf := zI (rtE b) (sL (List.drop (40 : Nat) b)),
                                fl := zI (rtE b) (sF (List.drop (40 : Nat) b)),
                                tg := zI (rtE b) (sT (List.drop (40 : Nat) b)),
                                s := zV (rtE b) (sS (List.drop (40 : Nat) b)),
                                t := zV (rtE b) (sP (List.drop (40 : Nat) b)) } &&
 decide
 ((zV (rtE b) (sS (List.drop (40 : Nat) b))).length ≤ (4611686018427387904 : Nat) ∧
 (zV (rtE b) (sP (List.drop (40 : Nat) b))).length ≤ (4611686018427387904 : Nat))) then
 some (V.bool false)
 else none
 else none
 else none
 else none
 else none
 else none
 else none := by kernel_rfl

theorem DetourInserts_t (b : List UInt8) (s : List V) (t : List V) : callV Edtp af_DetourInserts [.bytes b, .rows (.barr 16) s, .rows (.agg [.int .i64, .bytes]) t] =
 bif decide ((↑s.length : Int) > (40 : Int)) then some (V.bool true)
 else
 bif decide ((↑t.length : Int) > (200 : Int)) then some (V.bool true)
 else
 bif
 andT true
 (decide (b.length ≤ (140737488352000 : Nat) ∧ t.length ≤ (4611686018427387904 : Nat)) &&
 (isB16 s && okS s)) then
 bif
 andT true
 (decide (b.length ≤ (140737488352000 : Nat) ∧ t.length ≤ (4611686018427387904 : Nat)) &&
 (isB16 s && okS s)) then
 bif inB b s t == inB b s t then bif inE b s t == inE b s t then some (V.bool true) else some (V.bool false)
 else some (V.bool false)
 else none
 else none := by kernel_rfl

theorem DetourBack_t (b : List UInt8) (s : List V) : callV Edtp af_DetourBack [.bytes b, .rows (.barr 16) s] =
 bif decide ((↑s.length : Int) > (40 : Int)) then some (V.bool true)
 else
 bif
 andT true
 (decide (b.length ≤ (140737488352000 : Nat) ∧ (0 : Nat) ≤ (4611686018427387904 : Nat)) &&
 (isB16 s && okS s)) then
 bif inE b s [] != (0 : Int) then
 bif (↑(inB b s []).length : Int) == (0 : Int) then some (V.bool true) else some (V.bool false)
 else
 bif andT true (decide ((inB b s []).length ≤ (140737488352000 : Nat))) then
 bif rtE (inB b s []) == (0 : Int) then
 bif rmB (inB b s []) == b then
 bif decide ((↑(inB b s []).length : Int) ≤ (1500 : Int)) then some (V.bool true) else some (V.bool false)
 else some (V.bool false)
 else some (V.bool false)
 else none
 else none := by kernel_rfl

theorem isB16_of {M : Nat} {s : List V} (h : ∀ y ∈ s, inR M (.barr 16) y = true) : isB16 s = true := by
  refine List.all_eq_true.2 fun v hv => ?_
  obtain ⟨l, rfl, _⟩ := inR_barr (h v hv)
  rfl
theorem DetourTakes_v : ∀ xs, inRs 140737488351232 sh_DetourTakes xs = true → callV Edtp af_DetourTakes xs = some (.bool true) := by
  intro xs h
  obtain ⟨zx1, zl1, rfl, zh1, zr1⟩ := inRs_cons h; clear h
  obtain ⟨b, rfl, hb⟩ := inR_bytes zh1; clear zh1
  obtain rfl := inRs_nil zr1; clear zr1
  rw [DetourTakes_t]
  have e1 : ∀ x : Hd, eqVh x x = true := fun x => eqVh_iff.2 rfl
  have l1 : (zV (rtE b) (sS (b.drop 40))).length ≤ 256 := by
    have h1 := zV_len (rtE b) (sS (b.drop 40))
    have h2 := zV_len (shE (b.drop 40)) (sgL (b.drop 40) (shN (b.drop 40)))
    have h3 := shN_hi (b.drop 40)
    rw [sgL_len] at h2
    unfold sS at *
    omega
  have l2 : (zV (rtE b) (sP (b.drop 40))).length ≤ 2048 := by
    have h1 := zV_len (rtE b) (sP (b.drop 40))
    have h2 := zV_len (shE (b.drop 40)) (paV (parse (shT (b.drop 40))))
    have h3 := paV_len (shT (b.drop 40))
    have h4 := shT_len (b.drop 40)
    unfold sP at *
    omega
  simp only [beq_self_eq_true, e1]
  simp (disch := omega) only [dec_t, dec_f, inB_t, inC_t, andT_t, cond_true, cond_false, Bool.and_true, Bool.true_and, w64, wu32, wu8, nble_t, nblt_t, Bool.not_true, Bool.not_false, Bool.not_not, ieq_t, ieq_f, ine_t, ine_f, true_and, and_true, andT_l]
theorem DetourInserts_v : ∀ xs, inRs 140737488351232 sh_DetourInserts xs = true → callV Edtp af_DetourInserts xs = some (.bool true) := by
  intro xs h
  obtain ⟨zx1, zl1, rfl, zh1, zr1⟩ := inRs_cons h; clear h
  obtain ⟨b, rfl, hb⟩ := inR_bytes zh1; clear zh1
  obtain ⟨zx2, zl2, rfl, zh2, zr2⟩ := inRs_cons zr1; clear zr1
  obtain ⟨s, rfl, hs, qs⟩ := inR_rows zh2; clear zh2
  obtain ⟨zx3, zl3, rfl, zh3, zr3⟩ := inRs_cons zr2; clear zr2
  obtain ⟨t, rfl, ht, qt⟩ := inR_rows zh3; clear zh3
  obtain rfl := inRs_nil zr3; clear zr3
  rw [DetourInserts_t]
  have h1 := isB16_of qs
  have h2 := okS_of qs
  simp only [beq_self_eq_true, h1, h2]
  by_cases h3 : s.length ≤ 40
  · by_cases h4 : t.length ≤ 200
    · simp (disch := omega) only [dec_t, dec_f, inB_t, inC_t, andT_t, cond_true, cond_false, Bool.and_true, Bool.true_and, w64, wu32, wu8, nble_t, nblt_t, Bool.not_true, Bool.not_false, Bool.not_not, ieq_t, ieq_f, ine_t, ine_f, true_and, and_true, andT_l]
    · simp (disch := omega) only [dec_t, dec_f, inB_t, inC_t, andT_t, cond_true, cond_false, Bool.and_true, Bool.true_and, w64, wu32, wu8, nble_t, nblt_t, Bool.not_true, Bool.not_false, Bool.not_not, ieq_t, ieq_f, ine_t, ine_f, true_and, and_true, andT_l]
  · simp (disch := omega) only [dec_t, dec_f, inB_t, inC_t, andT_t, cond_true, cond_false, Bool.and_true, Bool.true_and, w64, wu32, wu8, nble_t, nblt_t, Bool.not_true, Bool.not_false, Bool.not_not, ieq_t, ieq_f, ine_t, ine_f, true_and, and_true, andT_l]
theorem DetourBack_v : ∀ xs, inRs 140737488351232 sh_DetourBack xs = true → callV Edtp af_DetourBack xs = some (.bool true) := by
  intro xs h
  obtain ⟨zx1, zl1, rfl, zh1, zr1⟩ := inRs_cons h; clear h
  obtain ⟨b, rfl, hb⟩ := inR_bytes zh1; clear zh1
  obtain ⟨zx2, zl2, rfl, zh2, zr2⟩ := inRs_cons zr1; clear zr1
  obtain ⟨s, rfl, hs, qs⟩ := inR_rows zh2; clear zh2
  obtain rfl := inRs_nil zr2; clear zr2
  rw [DetourBack_t]
  have h1 := isB16_of qs
  have h2 := okS_of qs
  simp only [h1, h2]
  by_cases h3 : s.length ≤ 40
  · by_cases h4 : inE b s [] = 0
    · have f := bkF h4 h2 (barr_of qs) (by simp)
      have g := inF h4
      have e := rm_back h4 f
      have hl := f.l
      have hl2 := g.l
      have r0 := f.r0
      simp only [e, beq_self_eq_true]
      simp (disch := omega) only [dec_t, dec_f, inB_t, inC_t, andT_t, cond_true, cond_false, Bool.and_true, Bool.true_and, w64, wu32, wu8, nble_t, nblt_t, Bool.not_true, Bool.not_false, Bool.not_not, ieq_t, ieq_f, ine_t, ine_f, true_and, and_true, andT_l]
    · have e := inB_no h4
      simp only [e]
      simp (disch := omega) only [dec_t, dec_f, inB_t, inC_t, andT_t, cond_true, cond_false, Bool.and_true, Bool.true_and, w64, wu32, wu8, nble_t, nblt_t, Bool.not_true, Bool.not_false, Bool.not_not, ieq_t, ieq_f, ine_t, ine_f, true_and, and_true, andT_l]
      try rfl
  · simp (disch := omega) only [dec_t, dec_f, inB_t, inC_t, andT_t, cond_true, cond_false, Bool.and_true, Bool.true_and, w64, wu32, wu8, nble_t, nblt_t, Bool.not_true, Bool.not_false, Bool.not_not, ieq_t, ieq_f, ine_t, ine_f, true_and, and_true, andT_l]
end Go.Proofs.Ytbojofchpnfnlaa
