/- SteerSends: for every input the law returns true, and what came in reads as before. No condition of its own. -/
import Derived.Test.YtbojofchpnfnlaaGreatGj
import Derived.Test.YtbojofchpnfnlaaGreatGf
import Derived.Test.YtbojofchpnfnlaaGreatGd
set_option linter.all false
namespace Go.Proofs.YtbojofchpnfnlaaGreat
open Go Go.Am Go.RowKit Go.Mix Go.Bas
set_option maxRecDepth 100000
noncomputable def GEste0 : List (Nat × Con) := [(86, .val [.agg [.int .i64, .int .i64, .int .u32]] cSMake)]
theorem GEste0_ok : GOk Tryz.prog GEste0 := .cons (enters_of Tryz.func86 (by kernel_rfl) rfl) rsMake_con <| .nil
noncomputable def IEste0 : List (Nat × AF) := []
theorem IEste0_ok : IOk Tryz.prog IEste0 := .nil
noncomputable def CEste0 : List (Nat × (List Nat × (S → Option (Bool × Tr)))) := []
theorem CEste0_ok : COk Tryz.prog CEste0 := .nil
noncomputable def XEste0 : List (Nat × (List Sh × (List V → PT))) := []
theorem XEste0_ok : XOk Tryz.prog XEste0 := .nil
noncomputable def Este0 : Env := ⟨Tryz.prog, GEste0, IEste0, CEste0, XEste0⟩
theorem Este0_ok : EnvOk Este0 := ⟨by kernel_rfl, GEste0_ok, IEste0_ok, CEste0_ok, XEste0_ok⟩
theorem rsNode_t (n : Int) : callV Este0 af_rsNode [.int .i64 n] =
 some (V.barr (16 : Nat) (sidR n (0 : Int) (0 : Int))) := by kernel_rfl

theorem rsNode_con : ∀ vs v, cSNode vs = some (v, true) → SpecV Tryz.prog 47 vs v := by
  intro vs v h; unfold cSNode at h; split at h
  · rename_i n
    injection h with h; injection h with h hb; subst h
    exact callV_ok Este0_ok af_rsNode_ok (rsNode_t n)
  · cases h
noncomputable def af_rStSend : AF := afOf Tryz.prog Tryz.f7 []
theorem af_rStSend_ok : AllOk Tryz.prog 7 af_rStSend := .flat Tryz.func7 (by kernel_rfl) (by kernel_rfl) (by kernel_rfl) (by kernel_rfl) (by kernel_rfl)
noncomputable def af_rStTold : AF := afOf Tryz.prog Tryz.f22 []
theorem af_rStTold_ok : AllOk Tryz.prog 22 af_rStTold := .flat Tryz.func22 (by kernel_rfl) (by kernel_rfl) (by kernel_rfl) (by kernel_rfl) (by kernel_rfl)
noncomputable def GEste : List (Nat × Con) := [(21, .val [.bytes] cSxNer), (23, .val [.bytes, .rows (.barr 16), .rows (.agg [.int .i64, .bytes])] cIns), (25, .val [.bytes] cSxGet), (45, .val [.int .i64, .int .i64, .int .u32, .bytes] cIAbout), (46, .val [.barr 16, .barr 16, .agg [.int .i64, .int .i64, .int .u32, .bytes]] cPkIcmp), (14, .val [.int .i64] cReason), (47, .val [.int .i64] cSNode)]
theorem GEste_ok : GOk Tryz.prog GEste := .cons (enters_of Tryz.func21 (by kernel_rfl) rfl) rSxNer_con <| .cons (enters_of Tryz.func23 (by kernel_rfl) rfl) rDtIns_con <| .cons (enters_of Tryz.func25 (by kernel_rfl) rfl) rSxGet_con <| .cons (enters_of Tryz.func45 (by kernel_rfl) rfl) rIAbout_con <| .cons (enters_of Tryz.func46 (by kernel_rfl) rfl) rPkIcmp_con <| .cons (enters_of Tryz.func14 (by kernel_rfl) rfl) rPkReason_con <| .cons (enters_of Tryz.func47 (by kernel_rfl) rfl) rsNode_con <| .nil
noncomputable def IEste : List (Nat × AF) := [(22, af_rStTold)]
theorem IEste_ok : IOk Tryz.prog IEste := .cons af_rStTold_ok <| .nil
noncomputable def CEste : List (Nat × (List Nat × (S → Option (Bool × Tr)))) := []
theorem CEste_ok : COk Tryz.prog CEste := .nil
noncomputable def XEste : List (Nat × (List Sh × (List V → PT))) := []
theorem XEste_ok : XOk Tryz.prog XEste := .nil
noncomputable def Este : Env := ⟨Tryz.prog, GEste, IEste, CEste, XEste⟩
theorem Este_ok : EnvOk Este := ⟨by kernel_rfl, GEste_ok, IEste_ok, CEste_ok, XEste_ok⟩
theorem rStSend_t (b : List UInt8) (s : List V) : callV Este af_rStSend [.bytes b, .rows (.barr 16) s] =
 bif andT true (decide (b.length ≤ (140737488352000 : Nat))) then
 bif nrE b == (13 : Int) then
 bif andT true (decide (b.length ≤ (140737488351232 : Nat))) then
 bif !abB (3 : Int) (0 : Int) b then
 some (V.tup [V.ownv (5 : Nat) (V.bytes []), V.bytes [], V.int IntKind.i64 (9 : Int)])
 else
 bif gE b != (0 : Int) then
 some (V.tup [V.ownv (5 : Nat) (V.bytes []), V.bytes [], V.int IntKind.i64 (9 : Int)])
 else
 bif
 andT true
 (decide
 ((bL (abB (3 : Int) (0 : Int) b) (List.take (1232 : Nat) b)).length ≤ (140737488351232 : Nat) ∧
 (0 : Int) ≤ bI (abB (3 : Int) (0 : Int) b) (0 : Int) ∧
 bI (abB (3 : Int) (0 : Int) b) (0 : Int) < (4294967296 : Int))) &&
 true then
 some
 (V.tup
 [V.ownv (5 : Nat) (V.bytes []),
 V.bytes
 (piB (sidR (0 : Int) (0 : Int) (0 : Int)) (gS b) (bI (abB (3 : Int) (0 : Int) b) (3 : Int))
 (bI (abB (3 : Int) (0 : Int) b) (0 : Int)) (bI (abB (3 : Int) (0 : Int) b) (0 : Int))
 (bL (abB (3 : Int) (0 : Int) b) (List.take (1232 : Nat) b))),
 V.int IntKind.i64 (9 : Int)])
 else none
 else none
 else
 bif nrE b != (0 : Int) then
 some (V.tup [V.ownv (5 : Nat) (V.bytes []), V.bytes [], V.int IntKind.i64 (rsN (nrE b))])
 else
 bif
 andT true
 (decide ((nrB b).length ≤ (140737488352000 : Nat) ∧ (0 : Nat) ≤ (4611686018427387904 : Nat)) &&
 (isB16 s && okS s)) then
 bif inE (nrB b) s [] == (4 : Int) then
 bif andT true (decide (b.length ≤ (140737488351232 : Nat))) then
 bif !abB (2 : Int) (0 : Int) b then
 some (V.tup [V.ownv (5 : Nat) (V.bytes []), V.bytes [], V.int IntKind.i64 (10 : Int)])
 else
 bif gE b != (0 : Int) then
 some (V.tup [V.ownv (5 : Nat) (V.bytes []), V.bytes [], V.int IntKind.i64 (10 : Int)])
 else
 bif
 andT true
 (decide
 ((bL (abB (2 : Int) (0 : Int) b) (List.take (1232 : Nat) b)).length ≤
 (140737488351232 : Nat) ∧
 (0 : Int) ≤
 bI (abB (2 : Int) (0 : Int) b)
 (IntKind.u32.wrap
 (IntKind.i64.wrap
 ((1476 : Int) - IntKind.i64.wrap ((16 : Int) * (↑s.length : Int))))) ∧
 bI (abB (2 : Int) (0 : Int) b)
 (IntKind.u32.wrap
 (IntKind.i64.wrap
 ((1476 : Int) - IntKind.i64.wrap ((16 : Int) * (↑s.length : Int))))) <
 (4294967296 : Int))) &&
 true then
 some
 (V.tup
 [V.ownv (5 : Nat) (V.bytes []),
 V.bytes
 (piB (sidR (0 : Int) (0 : Int) (0 : Int)) (gS b) (bI (abB (2 : Int) (0 : Int) b) (2 : Int))
 (bI (abB (2 : Int) (0 : Int) b) (0 : Int))
 (bI (abB (2 : Int) (0 : Int) b)
 (IntKind.u32.wrap
 (IntKind.i64.wrap
 ((1476 : Int) - IntKind.i64.wrap ((16 : Int) * (↑s.length : Int))))))
 (bL (abB (2 : Int) (0 : Int) b) (List.take (1232 : Nat) b))),
 V.int IntKind.i64 (10 : Int)])
 else none
 else none
 else
 bif inE (nrB b) s [] != (0 : Int) then
 some (V.tup [V.ownv (5 : Nat) (V.bytes []), V.bytes [], V.int IntKind.i64 (rsN (inE (nrB b) s []))])
 else some (V.tup [V.ownv (5 : Nat) (V.bytes (inB (nrB b) s [])), V.bytes [], V.int IntKind.i64 (0 : Int)])
 else none
 else none := by kernel_rfl

theorem sdN_is2 {s : List V} (h : s.length ≤ 1000000000) : IntKind.u32.wrap (IntKind.i64.wrap (1476 - IntKind.i64.wrap (16 * (s.length : Int)))) = sdN s := by
  unfold sdN
  rw [w64 (x := 16 * (s.length : Int)) (by omega) (by omega), w64 (by omega) (by omega)]
theorem rStSend_v (b : List UInt8) (s : List V) (hb : b.length ≤ 140737488351232) (hs : s.length ≤ 1000000000) (h1 : isB16 s = true) (h2 : okS s = true) :
    callV Este af_rStSend [.bytes b, .rows (.barr 16) s] = some (.tup [.ownv 5 (.bytes (sdX b s)), .bytes (sdM b s), .int .i64 (sdW b s)]) := by
  rw [rStSend_t, h1, h2, sdN_is2 hs]
  have hn := nrB_len b
  have hw := sdN_bd s
  have ht : (b.take 1232).length ≤ 1232 := by rw [List.length_take]; omega
  by_cases c1 : nrE b = 13
  · have eX : sdX b s = [] := by unfold sdX; rw [if_neg (by omega)]
    have eM : sdM b s = tdB b 3 0 := by unfold sdM; rw [if_pos c1]
    have eW : sdW b s = 9 := by unfold sdW; rw [if_pos (by omega), c1]; rfl
    rw [eX, eM, eW, c1]
    unfold tdB
    cases ha : abB 3 0 b with
    | false =>
      rw [if_neg (by simp)]
      simp (disch := omega) only [dec_t, dec_f, inB_t, inC_t, andT_t, cond_true, cond_false, Bool.and_true, Bool.true_and, w64, wu32, wu8, nble_t, nblt_t, Bool.not_true, Bool.not_false, Bool.not_not, ieq_t, ieq_f, ine_t, ine_f, true_and, and_true, andT_l]
    | true =>
      by_cases hg : gE b = 0
      · rw [if_pos ⟨rfl, hg⟩]
        have e1 : bL true (b.take 1232) = b.take 1232 := rfl
        have e2 : bI true 0 = 0 := rfl
        have e3 : bI true 3 = 3 := rfl
        rw [e1, e2, e3]
        simp (disch := omega) only [dec_t, dec_f, inB_t, inC_t, andT_t, cond_true, cond_false, Bool.and_true, Bool.true_and, w64, wu32, wu8, nble_t, nblt_t, Bool.not_true, Bool.not_false, Bool.not_not, ieq_t, ieq_f, ine_t, ine_f, true_and, and_true, andT_l]
      · rw [if_neg (by simp [hg])]
        simp (disch := omega) only [dec_t, dec_f, inB_t, inC_t, andT_t, cond_true, cond_false, Bool.and_true, Bool.true_and, w64, wu32, wu8, nble_t, nblt_t, Bool.not_true, Bool.not_false, Bool.not_not, ieq_t, ieq_f, ine_t, ine_f, true_and, and_true, andT_l]
  by_cases c2 : nrE b = 0
  rotate_left
  · have eX : sdX b s = [] := by unfold sdX; rw [if_neg (by omega)]
    have eM : sdM b s = [] := by unfold sdM; rw [if_neg c1, if_neg (by omega)]
    have eW : sdW b s = rsN (nrE b) := by unfold sdW; rw [if_pos c2]
    rw [eX, eM, eW]
    simp (disch := omega) only [dec_t, dec_f, inB_t, inC_t, andT_t, cond_true, cond_false, Bool.and_true, Bool.true_and, w64, wu32, wu8, nble_t, nblt_t, Bool.not_true, Bool.not_false, Bool.not_not, ieq_t, ieq_f, ine_t, ine_f, true_and, and_true, andT_l]
  have eW : sdW b s = rsN (sdF b s) := by unfold sdW; rw [if_neg (by omega)]
  rw [show inE (nrB b) s [] = sdF b s from rfl, eW]
  by_cases c3 : sdF b s = 4
  · have eX : sdX b s = [] := by unfold sdX; rw [if_neg (by omega)]
    have eM : sdM b s = tdB b 2 (sdN s) := by unfold sdM; rw [if_neg c1, if_pos ⟨c2, c3⟩]
    rw [eX, eM, c3, c2, show rsN 4 = 10 from rfl]
    unfold tdB
    cases ha : abB 2 0 b with
    | false =>
      rw [if_neg (by simp)]
      simp (disch := omega) only [dec_t, dec_f, inB_t, inC_t, andT_t, cond_true, cond_false, Bool.and_true, Bool.true_and, w64, wu32, wu8, nble_t, nblt_t, Bool.not_true, Bool.not_false, Bool.not_not, ieq_t, ieq_f, ine_t, ine_f, true_and, and_true, andT_l]
    | true =>
      by_cases hg : gE b = 0
      · rw [if_pos ⟨rfl, hg⟩]
        have e1 : bL true (b.take 1232) = b.take 1232 := rfl
        have e2 : bI true (sdN s) = sdN s := rfl
        have e3 : bI true 2 = 2 := rfl
        have e4 : bI true 0 = 0 := rfl
        rw [e1, e2, e3, e4]
        simp (disch := omega) only [dec_t, dec_f, inB_t, inC_t, andT_t, cond_true, cond_false, Bool.and_true, Bool.true_and, w64, wu32, wu8, nble_t, nblt_t, Bool.not_true, Bool.not_false, Bool.not_not, ieq_t, ieq_f, ine_t, ine_f, true_and, and_true, andT_l]
      · rw [if_neg (by simp [hg])]
        simp (disch := omega) only [dec_t, dec_f, inB_t, inC_t, andT_t, cond_true, cond_false, Bool.and_true, Bool.true_and, w64, wu32, wu8, nble_t, nblt_t, Bool.not_true, Bool.not_false, Bool.not_not, ieq_t, ieq_f, ine_t, ine_f, true_and, and_true, andT_l]
  have eM : sdM b s = [] := by unfold sdM; rw [if_neg c1, if_neg (by omega)]
  rw [eM, c2]
  by_cases c4 : sdF b s = 0
  · have eX : sdX b s = inB (nrB b) s [] := by unfold sdX; rw [if_pos ⟨c2, c4⟩]
    rw [eX, c4]
    simp (disch := omega) only [dec_t, dec_f, inB_t, inC_t, andT_t, cond_true, cond_false, Bool.and_true, Bool.true_and, w64, wu32, wu8, nble_t, nblt_t, Bool.not_true, Bool.not_false, Bool.not_not, ieq_t, ieq_f, ine_t, ine_f, true_and, and_true, andT_l]
    rfl
  · have eX : sdX b s = [] := by unfold sdX; rw [if_neg (by omega)]
    rw [eX]
    simp (disch := omega) only [dec_t, dec_f, inB_t, inC_t, andT_t, cond_true, cond_false, Bool.and_true, Bool.true_and, w64, wu32, wu8, nble_t, nblt_t, Bool.not_true, Bool.not_false, Bool.not_not, ieq_t, ieq_f, ine_t, ine_f, true_and, and_true, andT_l]
theorem rStSend_con : ∀ vs v, cStSend vs = some (v, true) → SpecV Tryz.prog 7 vs v := by
  intro vs v h; unfold cStSend at h; split at h
  · rename_i b s
    injection h with h; injection h with h hb; subst h
    exact callV_ok Este_ok af_rStSend_ok ((cStSend_h hb).elim fun a c => rStSend_v b s a.1 a.2 c.1 c.2)
  · cases h
theorem stOver_t (s : List V) : callV Este0 af_stOver [.rows (.barr 16) s] =
 some
 (V.int IntKind.i64
 (IntKind.i64.wrap ((8 : Int) + IntKind.i64.wrap ((16 : Int) * IntKind.i64.wrap ((↑s.length : Int) + (1 : Int)))))) := by kernel_rfl

def cStOver : List V → Option (V × Bool)
  | [.rows (.barr 16) s] => some (.int .i64 (IntKind.i64.wrap (8 + IntKind.i64.wrap (16 * IntKind.i64.wrap ((s.length : Int) + 1)))), true)
  | _ => none
theorem stOver_con : ∀ vs v, cStOver vs = some (v, true) → SpecV Tryz.prog 8 vs v := by
  intro vs v h; unfold cStOver at h; split at h
  · rename_i s
    injection h with h; injection h with h hb; subst h
    exact callV_ok Este0_ok af_stOver_ok (stOver_t s)
  · cases h
noncomputable def af_SteerSends : AF := afOf Tryz.prog Tryz.f3 []
theorem af_SteerSends_ok : AllOk Tryz.prog 3 af_SteerSends := .flat Tryz.func3 (by kernel_rfl) (by kernel_rfl) (by kernel_rfl) (by kernel_rfl) (by kernel_rfl)
noncomputable def GEstf : List (Nat × Con) := [(5, .val [] cTrue38), (6, .val [.bytes, .rows (.barr 16)] cStSend), (7, .val [.bytes, .rows (.barr 16)] cStSend), (8, .val [.rows (.barr 16)] cStOver)]
theorem GEstf_ok : GOk Tryz.prog GEstf := .cons (enters_of Tryz.func5 (by kernel_rfl) rfl) lives38_con <| .cons (enters_of Tryz.func6 (by kernel_rfl) rfl) stSend_con <| .cons (enters_of Tryz.func7 (by kernel_rfl) rfl) rStSend_con <| .cons (enters_of Tryz.func8 (by kernel_rfl) rfl) stOver_con <| .nil
noncomputable def IEstf : List (Nat × AF) := []
theorem IEstf_ok : IOk Tryz.prog IEstf := .nil
noncomputable def CEstf : List (Nat × (List Nat × (S → Option (Bool × Tr)))) := []
theorem CEstf_ok : COk Tryz.prog CEstf := .nil
noncomputable def XEstf : List (Nat × (List Sh × (List V → PT))) := []
theorem XEstf_ok : XOk Tryz.prog XEstf := .nil
noncomputable def Estf : Env := ⟨Tryz.prog, GEstf, IEstf, CEstf, XEstf⟩
theorem Estf_ok : EnvOk Estf := ⟨by kernel_rfl, GEstf_ok, IEstf_ok, CEstf_ok, XEstf_ok⟩
def sh_SteerSends : List Sh := [.bytes, .rows (.barr 16)]
theorem SteerSends_t (b : List UInt8) (s : List V) : callV Estf af_SteerSends [.bytes b, .rows (.barr 16) s] =
 bif decide ((↑s.length : Int) > (40 : Int)) then some (V.bool true)
 else
 bif decide ((↑b.length : Int) > (3000 : Int)) then some (V.bool true)
 else
 bif
 andT true
 (decide (b.length ≤ (140737488351232 : Nat) ∧ s.length ≤ (1000000000 : Nat)) && (isB16 s && okS s)) then
 bif
 andT true
 (decide (b.length ≤ (140737488351232 : Nat) ∧ s.length ≤ (1000000000 : Nat)) && (isB16 s && okS s)) then
 bif sdX b s == sdX b s then
 bif sdM b s == sdM b s then
 bif sdW b s == sdW b s then
 bif
 IntKind.i64.wrap
 ((8 : Int) +
 IntKind.i64.wrap ((16 : Int) * IntKind.i64.wrap ((↑s.length : Int) + (1 : Int)))) ==
 IntKind.i64.wrap ((24 : Int) + IntKind.i64.wrap ((16 : Int) * (↑s.length : Int))) then
 some (V.bool true)
 else some (V.bool false)
 else some (V.bool false)
 else some (V.bool false)
 else some (V.bool false)
 else none
 else none := by kernel_rfl

theorem SteerSends_v : ∀ xs, inRs 140737488351232 sh_SteerSends xs = true → callV Estf af_SteerSends xs = some (.bool true) := by
  intro xs h
  obtain ⟨zx1, zl1, rfl, zh1, zr1⟩ := inRs_cons h; clear h
  obtain ⟨b, rfl, hb⟩ := inR_bytes zh1; clear zh1
  obtain ⟨zx2, zl2, rfl, zh2, zr2⟩ := inRs_cons zr1; clear zr1
  obtain ⟨s, rfl, hs, qs⟩ := inR_rows zh2; clear zh2
  obtain rfl := inRs_nil zr2; clear zr2
  rw [SteerSends_t]
  have h1 := isB16_of qs
  have h2 := okS_of qs
  rw [h1, h2]
  simp only [beq_self_eq_true]
  by_cases h3 : s.length ≤ 40
  · by_cases h4 : b.length ≤ 3000
    · rw [w64 (x := (s.length : Int) + 1) (by omega) (by omega), w64 (x := 16 * ((s.length : Int) + 1)) (by omega) (by omega), w64 (x := 8 + 16 * ((s.length : Int) + 1)) (by omega) (by omega), w64 (x := 16 * (s.length : Int)) (by omega) (by omega), w64 (x := 24 + 16 * (s.length : Int)) (by omega) (by omega)]
      simp (disch := omega) only [dec_t, dec_f, inB_t, inC_t, andT_t, cond_true, cond_false, Bool.and_true, Bool.true_and, w64, wu32, wu8, nble_t, nblt_t, Bool.not_true, Bool.not_false, Bool.not_not, ieq_t, ieq_f, ine_t, ine_f, true_and, and_true, andT_l]
    · simp (disch := omega) only [dec_t, dec_f, inB_t, inC_t, andT_t, cond_true, cond_false, Bool.and_true, Bool.true_and, w64, wu32, wu8, nble_t, nblt_t, Bool.not_true, Bool.not_false, Bool.not_not, ieq_t, ieq_f, ine_t, ine_f, true_and, and_true, andT_l]
  · simp (disch := omega) only [dec_t, dec_f, inB_t, inC_t, andT_t, cond_true, cond_false, Bool.and_true, Bool.true_and, w64, wu32, wu8, nble_t, nblt_t, Bool.not_true, Bool.not_false, Bool.not_not, ieq_t, ieq_f, ine_t, ine_f, true_and, and_true, andT_l]
end Go.Proofs.YtbojofchpnfnlaaGreat

namespace Go.Proofs.YtbojofchpnfnlaaGreat.steerSends
open Go Go.ChangeShapes Go.WideShapes Go.ChangeAt Go.RowKit Go.Bas Go.Am

theorem own : ownKnob Tryz.prog.godebug = none := by kernel_rfl
theorem laidOut : laidOutB Tryz.prog = true := by kernel_rfl
set_option maxRecDepth 100000 in
set_option maxHeartbeats 4000000 in
theorem closed : joinedFacts Tryz.checked.prog 3 Tryz.f3 Rows.steerSendsSpec Rows.steerSendsRow = true := by
  unfold joinedFacts
  rw [fMay, fLift, fMake]
  refine (andB (andB (andB (andB (andB (andB (andB (andB (andB (andB (andB (andB (andB (andB (andB (andB (andB (andB (andB (andB (andB (andB (andB (andB (andB (andB (andB (andB (andB (andB ?_ ?_) ?_) ?_) ?_) ?_) ?_) ?_) ?_) ?_) ?_) ?_) ?_) ?_) ?_) ?_) ?_) ?_) ?_) ?_) ?_) ?_) ?_) ?_) ?_) ?_) ?_) ?_) ?_) ?_) ?_)
  all_goals as_aux_lemma => kernel_rfl
set_option maxRecDepth 100000 in
set_option maxHeartbeats 1000000 in
theorem lifted (os : Os) (started : os.Started) (H : Type) (enc : TypeId × Value → H) :
    ReturnsInHanded {} Tryz.checked os 3 .any (Rows.steerSendsSpec.pre6 enc Tryz.prog Tryz.f3 Rows.steerSendsRow.domain false) (Rows.steerSendsSpec.post enc Tryz.prog Tryz.f3 false true false false) := by
  refine returnsInHanded_of_change_sized (C := Tryz.checked) own started (by kernel_rfl) Tryz.func3
    (ChangeSpec.witness6 (enc := enc) (C := Tryz.checked) false ⟨#[], (Tryz.f3.params.map (zArg Tryz.prog 8)), []⟩ 8 (by kernel_rfl) (by kernel_rfl) (by kernel_rfl) (by kernel_rfl)) ?_
  intro W base args ds gs before hval0 hW hcnd hsz0 _
  have hval : ∀ (j : Nat) t v, Tryz.f3.params[j]? = some t → args[j]? = some v → Value.okWide Tryz.prog W .any base t v := hval0
  have hsz : (DataW.weightsEach Tryz.prog (Tryz.f3.params.toList ++ Rows.steerSendsSpec.plain.varTypes Tryz.prog) (ds ++ gs)).all (· ≤ reachBytes) = true := hsz0
  clear hsz0
  have hW' := hW
  obtain ⟨p, q, hA0, hV, rfl, hfz, hnd⟩ := hW
  have hA : DataW.TrodAll enc Tryz.prog W 0 (fun _ => true) true Tryz.f3.params.toList args.toList ds p := hA0
  obtain ⟨rfl, rfl⟩ := trodVars_none hV
  have hc := law_calls (E := Estf) Estf_ok af_SteerSends_ok (D := 8) (shs := sh_SteerSends) 140737488351232 hA (fun j t v h1 h2 => hval j t v (by simpa using h1) (by simpa using h2)) (by kernel_rfl) (by kernel_rfl) (weights_of rfl hsz) SteerSends_v
  rw [Array.toArray_toList] at hc
  refine hc.mono fun e W' ⟨he, hb⟩ => ?_
  subst he
  exact ⟨_, rfl, law_post laidOut (par_of (by kernel_rfl)) rfl rfl Tryz.underlying4 (by have hl := trodAll_len hA; clear hc; match ds, hl with | [_, _], _ => rfl) hW' hb⟩
set_option maxRecDepth 100000 in
theorem proved : Rows.SteerSendsSaid :=
  OpenClaim.holds_of_wide 3 Tryz.f3 rfl rfl rfl rfl rfl rfl rfl ⟨rfl, rfl, rfl, rfl, rfl⟩ rfl rfl rfl rfl rfl (by as_aux_lemma => kernel_rfl) Tryz.func3 closed
    (of_decide_eq_true (by kernel_rfl)) (by unfold Func.isWrapper; first | (rw [if_pos (by decide +kernel)]; kernel_rfl) | (rw [if_neg (by decide +kernel)]; exact ⟨rfl, rfl⟩))
    (fun os started H enc _ => lifted os started H enc)
end Go.Proofs.YtbojofchpnfnlaaGreat.steerSends
