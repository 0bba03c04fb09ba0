/- Part Gj of the proof: laws used by the law of this claim. -/
import Derived.Test.YtbojofchpnfnlaaGv
import Derived.Test.YtbojofchpnfnlaaGsi
import Derived.Test.YtbojofchpnfnlaaGt
set_option linter.all false
namespace Go.Proofs.Ytbojofchpnfnlaa
open Go Go.Am Go.RowKit Go.Mix Go.Bas
set_option maxRecDepth 100000
noncomputable def GEsta0 : List (Nat × Con) := [(178, .val [.agg [.int .i64, .int .i64, .int .u32]] cSMake)]
theorem GEsta0_ok : GOk Try.prog GEsta0 := .cons (enters_of Try.func178 (by kernel_rfl) rfl) sMake_con <| .nil
noncomputable def IEsta0 : List (Nat × AF) := []
theorem IEsta0_ok : IOk Try.prog IEsta0 := .nil
noncomputable def CEsta0 : List (Nat × (List Nat × (S → Option S))) := []
theorem CEsta0_ok : COk Try.prog CEsta0 := .nil
noncomputable def XEsta0 : List (Nat × (List Sh × (List V → PT))) := []
theorem XEsta0_ok : XOk Try.prog XEsta0 := .nil
noncomputable def Esta0 : Env := ⟨Try.prog, GEsta0, IEsta0, CEsta0, XEsta0⟩
theorem Esta0_ok : EnvOk Esta0 := ⟨by kernel_rfl, GEsta0_ok, IEsta0_ok, CEsta0_ok, XEsta0_ok⟩
theorem sNode_t (n : Int) : callV Esta0 af_sNode [.int .i64 n] =
 some (V.barr (16 : Nat) (sidR n (0 : Int) (0 : Int))) := by kernel_rfl

def cSNode : List V → Option (V × Bool)
  | [.int .i64 n] => some (.barr 16 (sidR n 0 0), true)
  | _ => none
theorem sNode_con : ∀ vs v, cSNode vs = some (v, true) → SpecV Try.prog 149 vs v := by
  intro vs v h; unfold cSNode at h; split at h
  · rename_i n
    injection h with h; injection h with h hb; subst h
    exact callV_ok Esta0_ok af_sNode_ok (sNode_t n)
  · cases h
noncomputable def af_stSend : AF := afOf Try.prog Try.f46 [.unr 3]
theorem af_stSend_ok : AllOk Try.prog 46 af_stSend := .flat Try.func46 (by kernel_rfl) (by kernel_rfl) (by kernel_rfl) (by kernel_rfl) (by kernel_rfl)
noncomputable def af_stSend1 : AF := afOf Try.prog Try.f104 []
theorem af_stSend1_ok : AllOk Try.prog 104 af_stSend1 := .flat Try.func104 (by kernel_rfl) (by kernel_rfl) (by kernel_rfl) (by kernel_rfl) (by kernel_rfl)
noncomputable def af_stTold : AF := afOf Try.prog Try.f105 []
theorem af_stTold_ok : AllOk Try.prog 105 af_stTold := .flat Try.func105 (by kernel_rfl) (by kernel_rfl) (by kernel_rfl) (by kernel_rfl) (by kernel_rfl)
noncomputable def af_stOver : AF := afOf Try.prog Try.f102 []
theorem af_stOver_ok : AllOk Try.prog 102 af_stOver := .flat Try.func102 (by kernel_rfl) (by kernel_rfl) (by kernel_rfl) (by kernel_rfl) (by kernel_rfl)
noncomputable def GEsta : List (Nat × Con) := [(103, .val [.bytes] cSxNer), (33, .val [.bytes, .rows (.barr 16), .rows (.agg [.int .i64, .bytes])] cIns), (147, .val [.bytes] cSxGet), (148, .val [.int .i64, .int .i64, .int .u32, .bytes] cIAbout), (50, .val [.barr 16, .barr 16, .agg [.int .i64, .int .i64, .int .u32, .bytes]] cPkIcmp), (52, .val [.int .i64] cReason), (149, .val [.int .i64] cSNode)]
theorem GEsta_ok : GOk Try.prog GEsta := .cons (enters_of Try.func103 (by kernel_rfl) rfl) sxNer_con <| .cons (enters_of Try.func33 (by kernel_rfl) rfl) dtIns2_con <| .cons (enters_of Try.func147 (by kernel_rfl) rfl) sxGet_con <| .cons (enters_of Try.func148 (by kernel_rfl) rfl) IAbout2_con <| .cons (enters_of Try.func50 (by kernel_rfl) rfl) pkIcmp_con <| .cons (enters_of Try.func52 (by kernel_rfl) rfl) pkReason_con <| .cons (enters_of Try.func149 (by kernel_rfl) rfl) sNode_con <| .nil
noncomputable def IEsta : List (Nat × AF) := [(104, af_stSend1), (105, af_stTold), (102, af_stOver)]
theorem IEsta_ok : IOk Try.prog IEsta := .cons af_stSend1_ok <| .cons af_stTold_ok <| .cons af_stOver_ok <| .nil
noncomputable def CEsta : List (Nat × (List Nat × (S → Option S))) := []
theorem CEsta_ok : COk Try.prog CEsta := .nil
noncomputable def XEsta : List (Nat × (List Sh × (List V → PT))) := []
theorem XEsta_ok : XOk Try.prog XEsta := .nil
noncomputable def Esta : Env := ⟨Try.prog, GEsta, IEsta, CEsta, XEsta⟩
theorem Esta_ok : EnvOk Esta := ⟨by kernel_rfl, GEsta_ok, IEsta_ok, CEsta_ok, XEsta_ok⟩
theorem stSend_t (b : List UInt8) (s : List V) : callV Esta af_stSend [.bytes b, .rows (.barr 16) s] =
 bif andT true (decide (b.length ≤ (140737488352000 : Nat))) then
 bif nrE b == (13 : Int) then
 bif andT true (decide (b.length ≤ (140737488351232 : Nat))) then
 bif !abB (3 : Int) (0 : Int) b then
 some (V.tup [V.ownv (5 : Nat) (V.bytes []), V.bytes [], V.int IntKind.i64 (rsN (nrE b))])
 else
 bif gE b != (0 : Int) then
 some (V.tup [V.ownv (5 : Nat) (V.bytes []), V.bytes [], V.int IntKind.i64 (rsN (nrE b))])
 else
 bif
 andT true
 (decide
 ((bL (abB (3 : Int) (0 : Int) b) (List.take (1232 : Nat) b)).length ≤ (140737488351232 : Nat) ∧
 (0 : Int) ≤ bI (abB (3 : Int) (0 : Int) b) (0 : Int) ∧
 bI (abB (3 : Int) (0 : Int) b) (0 : Int) < (4294967296 : Int))) &&
 true then
 some
 (V.tup
 [V.ownv (5 : Nat) (V.bytes []),
 V.bytes
 (piB (sidR (0 : Int) (0 : Int) (0 : Int)) (gS b) (bI (abB (3 : Int) (0 : Int) b) (3 : Int))
 (bI (abB (3 : Int) (0 : Int) b) (0 : Int)) (bI (abB (3 : Int) (0 : Int) b) (0 : Int))
 (bL (abB (3 : Int) (0 : Int) b) (List.take (1232 : Nat) b))),
 V.int IntKind.i64 (rsN (nrE b))])
 else none
 else none
 else
 bif nrE b != (0 : Int) then
 some (V.tup [V.ownv (5 : Nat) (V.bytes []), V.bytes [], V.int IntKind.i64 (rsN (nrE b))])
 else
 bif
 andT true
 (decide ((nrB b).length ≤ (140737488352000 : Nat) ∧ (0 : Nat) ≤ (4611686018427387904 : Nat)) &&
 (isB16 s && okS s)) then
 bif inE (nrB b) s [] == (4 : Int) then
 bif andT true (decide (b.length ≤ (140737488351232 : Nat))) then
 bif !abB (2 : Int) (0 : Int) b then
 some (V.tup [V.ownv (5 : Nat) (V.bytes []), V.bytes [], V.int IntKind.i64 (rsN (inE (nrB b) s []))])
 else
 bif gE b != (0 : Int) then
 some (V.tup [V.ownv (5 : Nat) (V.bytes []), V.bytes [], V.int IntKind.i64 (rsN (inE (nrB b) s []))])
 else
 bif
 andT true
 (decide
 ((bL (abB (2 : Int) (0 : Int) b) (List.take (1232 : Nat) b)).length ≤
 (140737488351232 : Nat) ∧
 (0 : Int) ≤
 bI (abB (2 : Int) (0 : Int) b)
 (IntKind.u32.wrap
 (IntKind.i64.wrap
 ((1500 : Int) -
 IntKind.i64.wrap
 ((8 : Int) +
 IntKind.i64.wrap
 ((16 : Int) * IntKind.i64.wrap ((↑s.length : Int) + (1 : Int))))))) ∧
 bI (abB (2 : Int) (0 : Int) b)
 (IntKind.u32.wrap
 (IntKind.i64.wrap
 ((1500 : Int) -
 IntKind.i64.wrap
 ((8 : Int) +
 IntKind.i64.wrap
 ((16 : Int) * IntKind.i64.wrap ((↑s.length : Int) + (1 : Int))))))) <
 (4294967296 : Int))) &&
 true then
 some
 (V.tup
 [V.ownv (5 : Nat) (V.bytes []),
 V.bytes
 (piB (sidR (0 : Int) (0 : Int) (0 : Int)) (gS b) (bI (abB (2 : Int) (0 : Int) b) (2 : Int))
 (bI (abB (2 : Int) (0 : Int) b) (0 : Int))
 (bI (abB (2 : Int) (0 : Int) b)
 (IntKind.u32.wrap
 (IntKind.i64.wrap
 ((1500 : Int) -
 IntKind.i64.wrap
 ((8 : Int) +
 IntKind.i64.wrap
 ((16 : Int) * IntKind.i64.wrap ((↑s.length : Int) + (1 : Int))))))))
 (bL (abB (2 : Int) (0 : Int) b) (List.take (1232 : Nat) b))),
 V.int IntKind.i64 (rsN (inE (nrB b) s []))])
 else none
 else none
 else
 bif inE (nrB b) s [] != (0 : Int) then
 some (V.tup [V.ownv (5 : Nat) (V.bytes []), V.bytes [], V.int IntKind.i64 (rsN (inE (nrB b) s []))])
 else some (V.tup [V.ownv (5 : Nat) (V.bytes (inB (nrB b) s [])), V.bytes [], V.int IntKind.i64 (0 : Int)])
 else none
 else none := by kernel_rfl

end Go.Proofs.Ytbojofchpnfnlaa

namespace Go.Proofs.Ytbojofchpnfnlaa
open Go Go.Am Go.RowKit Go.Mix Go.Bas
set_option maxRecDepth 100000
/-- what is told -/
def tdB (b : List UInt8) (k w : Int) : List UInt8 := if abB k 0 b = true ∧ gE b = 0 then piB (sidR 0 0 0) (gS b) k 0 w (b.take 1232) else []
def sdN (s : List V) : Int := IntKind.u32.wrap (1476 - 16 * (s.length : Int))
def sdF (b : List UInt8) (s : List V) : Int := inE (nrB b) s []
def sdX (b : List UInt8) (s : List V) : List UInt8 := if nrE b = 0 ∧ sdF b s = 0 then inB (nrB b) s [] else []
def sdM (b : List UInt8) (s : List V) : List UInt8 := if nrE b = 13 then tdB b 3 0 else if nrE b = 0 ∧ sdF b s = 4 then tdB b 2 (sdN s) else []
def sdW (b : List UInt8) (s : List V) : Int := if nrE b ≠ 0 then rsN (nrE b) else rsN (sdF b s)
theorem nrB_len (b : List UInt8) : (nrB b).length ≤ b.length + 40 := by
  unfold nrB
  split
  · have hx := hdX_len (gC b) (gLa b) (gLn b) (gNx b) (gHp b - 1) (gS b) (gD b)
    rw [List.length_append, List.length_drop]; omega
  · exact Nat.zero_le _
theorem sdN_bd (s : List V) : 0 ≤ sdN s ∧ sdN s < 4294967296 := by
  unfold sdN
  simp [IntKind.wrap, IntKind.signed, IntKind.bits]
  omega
theorem sdN_is {s : List V} (h : s.length ≤ 1000000000) : IntKind.u32.wrap (IntKind.i64.wrap (1500 - IntKind.i64.wrap (8 + IntKind.i64.wrap (16 * IntKind.i64.wrap ((s.length : Int) + 1))))) = sdN s := by
  unfold sdN
  rw [w64 (x := (s.length : Int) + 1) (by omega) (by omega), w64 (x := 16 * ((s.length : Int) + 1)) (by omega) (by omega), w64 (x := 8 + 16 * ((s.length : Int) + 1)) (by omega) (by omega), w64 (by omega) (by omega)]
  congr 1
  omega
theorem stSend_v (b : List UInt8) (s : List V) (hb : b.length ≤ 140737488351232) (hs : s.length ≤ 1000000000) (h1 : isB16 s = true) (h2 : okS s = true) :
    callV Esta af_stSend [.bytes b, .rows (.barr 16) s] = some (.tup [.ownv 5 (.bytes (sdX b s)), .bytes (sdM b s), .int .i64 (sdW b s)]) := by
  rw [stSend_t, h1, h2, sdN_is hs]
  have hn := nrB_len b
  have hw := sdN_bd s
  have ht : (b.take 1232).length ≤ 1232 := by rw [List.length_take]; omega
  by_cases c1 : nrE b = 13
  · have eX : sdX b s = [] := by unfold sdX; rw [if_neg (by omega)]
    have eM : sdM b s = tdB b 3 0 := by unfold sdM; rw [if_pos c1]
    have eW : sdW b s = 9 := by unfold sdW; rw [if_pos (by omega), c1]; rfl
    rw [eX, eM, eW, c1, show rsN 13 = 9 from rfl]
    unfold tdB
    cases ha : abB 3 0 b with
    | false =>
      rw [if_neg (by simp)]
      simp (disch := omega) only [dec_t, dec_f, inB_t, inC_t, andT_t, cond_true, cond_false, Bool.and_true, Bool.true_and, w64, wu32, wu8, nble_t, nblt_t, Bool.not_true, Bool.not_false, Bool.not_not, ieq_t, ieq_f, ine_t, ine_f, true_and, and_true, andT_l]
    | true =>
      by_cases hg : gE b = 0
      · rw [if_pos ⟨rfl, hg⟩]
        have e1 : bL true (b.take 1232) = b.take 1232 := rfl
        have e2 : bI true 0 = 0 := rfl
        have e3 : bI true 3 = 3 := rfl
        rw [e1, e2, e3]
        simp (disch := omega) only [dec_t, dec_f, inB_t, inC_t, andT_t, cond_true, cond_false, Bool.and_true, Bool.true_and, w64, wu32, wu8, nble_t, nblt_t, Bool.not_true, Bool.not_false, Bool.not_not, ieq_t, ieq_f, ine_t, ine_f, true_and, and_true, andT_l]
      · rw [if_neg (by simp [hg])]
        simp (disch := omega) only [dec_t, dec_f, inB_t, inC_t, andT_t, cond_true, cond_false, Bool.and_true, Bool.true_and, w64, wu32, wu8, nble_t, nblt_t, Bool.not_true, Bool.not_false, Bool.not_not, ieq_t, ieq_f, ine_t, ine_f, true_and, and_true, andT_l]
  by_cases c2 : nrE b = 0
  rotate_left
  · have eX : sdX b s = [] := by unfold sdX; rw [if_neg (by omega)]
    have eM : sdM b s = [] := by unfold sdM; rw [if_neg c1, if_neg (by omega)]
    have eW : sdW b s = rsN (nrE b) := by unfold sdW; rw [if_pos c2]
    rw [eX, eM, eW]
    simp (disch := omega) only [dec_t, dec_f, inB_t, inC_t, andT_t, cond_true, cond_false, Bool.and_true, Bool.true_and, w64, wu32, wu8, nble_t, nblt_t, Bool.not_true, Bool.not_false, Bool.not_not, ieq_t, ieq_f, ine_t, ine_f, true_and, and_true, andT_l]
  have eW : sdW b s = rsN (sdF b s) := by unfold sdW; rw [if_neg (by omega)]
  rw [show inE (nrB b) s [] = sdF b s from rfl, eW]
  by_cases c3 : sdF b s = 4
  · have eX : sdX b s = [] := by unfold sdX; rw [if_neg (by omega)]
    have eM : sdM b s = tdB b 2 (sdN s) := by unfold sdM; rw [if_neg c1, if_pos ⟨c2, c3⟩]
    rw [eX, eM, c3, c2]
    unfold tdB
    cases ha : abB 2 0 b with
    | false =>
      rw [if_neg (by simp)]
      simp (disch := omega) only [dec_t, dec_f, inB_t, inC_t, andT_t, cond_true, cond_false, Bool.and_true, Bool.true_and, w64, wu32, wu8, nble_t, nblt_t, Bool.not_true, Bool.not_false, Bool.not_not, ieq_t, ieq_f, ine_t, ine_f, true_and, and_true, andT_l]
    | true =>
      by_cases hg : gE b = 0
      · rw [if_pos ⟨rfl, hg⟩]
        have e1 : bL true (b.take 1232) = b.take 1232 := rfl
        have e2 : bI true (sdN s) = sdN s := rfl
        have e3 : bI true 2 = 2 := rfl
        have e4 : bI true 0 = 0 := rfl
        rw [e1, e2, e3, e4]
        simp (disch := omega) only [dec_t, dec_f, inB_t, inC_t, andT_t, cond_true, cond_false, Bool.and_true, Bool.true_and, w64, wu32, wu8, nble_t, nblt_t, Bool.not_true, Bool.not_false, Bool.not_not, ieq_t, ieq_f, ine_t, ine_f, true_and, and_true, andT_l]
      · rw [if_neg (by simp [hg])]
        simp (disch := omega) only [dec_t, dec_f, inB_t, inC_t, andT_t, cond_true, cond_false, Bool.and_true, Bool.true_and, w64, wu32, wu8, nble_t, nblt_t, Bool.not_true, Bool.not_false, Bool.not_not, ieq_t, ieq_f, ine_t, ine_f, true_and, and_true, andT_l]
  have eM : sdM b s = [] := by unfold sdM; rw [if_neg c1, if_neg (by omega)]
  rw [eM, c2]
  by_cases c4 : sdF b s = 0
  · have eX : sdX b s = inB (nrB b) s [] := by unfold sdX; rw [if_pos ⟨c2, c4⟩]
    rw [eX, c4]
    simp (disch := omega) only [dec_t, dec_f, inB_t, inC_t, andT_t, cond_true, cond_false, Bool.and_true, Bool.true_and, w64, wu32, wu8, nble_t, nblt_t, Bool.not_true, Bool.not_false, Bool.not_not, ieq_t, ieq_f, ine_t, ine_f, true_and, and_true, andT_l]
    rfl
  · have eX : sdX b s = [] := by unfold sdX; rw [if_neg (by omega)]
    rw [eX]
    simp (disch := omega) only [dec_t, dec_f, inB_t, inC_t, andT_t, cond_true, cond_false, Bool.and_true, Bool.true_and, w64, wu32, wu8, nble_t, nblt_t, Bool.not_true, Bool.not_false, Bool.not_not, ieq_t, ieq_f, ine_t, ine_f, true_and, and_true, andT_l]
def cStSend : List V → Option (V × Bool)
  | [.bytes b, .rows (.barr 16) s] => some (.tup [.ownv 5 (.bytes (sdX b s)), .bytes (sdM b s), .int .i64 (sdW b s)], (decide (b.length ≤ 140737488351232 ∧ s.length ≤ 1000000000) && (isB16 s && okS s)))
  | _ => none
theorem cStSend_h {b : List UInt8} {s : List V} (h : (decide (b.length ≤ 140737488351232 ∧ s.length ≤ 1000000000) && (isB16 s && okS s)) = true) : (b.length ≤ 140737488351232 ∧ s.length ≤ 1000000000) ∧ isB16 s = true ∧ okS s = true := by
  obtain ⟨h1, h2⟩ := (Bool.and_eq_true _ _).mp h
  exact ⟨of_decide_eq_true h1, (Bool.and_eq_true _ _).mp h2⟩
theorem stSend_con : ∀ vs v, cStSend vs = some (v, true) → SpecV Try.prog 46 vs v := by
  intro vs v h; unfold cStSend at h; split at h
  · rename_i b s
    injection h with h; injection h with h hb; subst h
    exact callV_ok Esta_ok af_stSend_ok ((cStSend_h hb).elim fun a c => stSend_v b s a.1 a.2 c.1 c.2)
  · cases h
noncomputable def af_plain38 : AF := afOf Try.prog Try.f101 []
theorem af_plain38_ok : AllOk Try.prog 101 af_plain38 := .flat Try.func101 (by kernel_rfl) (by kernel_rfl) (by kernel_rfl) (by kernel_rfl) (by kernel_rfl)
noncomputable def af_lives38 : AF := afOf Try.prog Try.f45 []
theorem af_lives38_ok : AllOk Try.prog 45 af_lives38 := .flat Try.func45 (by kernel_rfl) (by kernel_rfl) (by kernel_rfl) (by kernel_rfl) (by kernel_rfl)
noncomputable def GEstb : List (Nat × Con) := [(48, .val [.barr 16, .barr 16, .agg [.int .i64, .int .i64, .int .u32, .int .u32, .int .i64, .int .i64, .int .i64, .int .i64, .rows (.agg [.int .i64, .bytes]), .bytes]] cPkTcp), (46, .val [.bytes, .rows (.barr 16)] cStSend)]
theorem GEstb_ok : GOk Try.prog GEstb := .cons (enters_of Try.func48 (by kernel_rfl) rfl) pkTcp_con <| .cons (enters_of Try.func46 (by kernel_rfl) rfl) stSend_con <| .nil
noncomputable def IEstb : List (Nat × AF) := [(101, af_plain38), (102, af_stOver)]
theorem IEstb_ok : IOk Try.prog IEstb := .cons af_plain38_ok <| .cons af_stOver_ok <| .nil
noncomputable def CEstb : List (Nat × (List Nat × (S → Option S))) := []
theorem CEstb_ok : COk Try.prog CEstb := .nil
noncomputable def XEstb : List (Nat × (List Sh × (List V → PT))) := []
theorem XEstb_ok : XOk Try.prog XEstb := .nil
noncomputable def Estb : Env := ⟨Try.prog, GEstb, IEstb, CEstb, XEstb⟩
theorem Estb_ok : EnvOk Estb := ⟨by kernel_rfl, GEstb_ok, IEstb_ok, CEstb_ok, XEstb_ok⟩
theorem lives38_v : callV Estb af_lives38 [] = some (.bool true) := by kernel_rfl
def cTrue38 : List V → Option (V × Bool)
  | [] => some (.bool true, true)
  | _ => none
theorem lives38_con : ∀ vs v, cTrue38 vs = some (v, true) → SpecV Try.prog 45 vs v := by
  intro vs v h; unfold cTrue38 at h; split at h
  · injection h with h; injection h with h hb; subst h
    exact callV_ok Estb_ok af_lives38_ok (lives38_v)
  · cases h
theorem rsN_zero {e : Int} : rsN e = 0 ↔ e = 0 := by
  unfold rsN
  repeat' split
  all_goals omega
theorem rsN_bd {e : Int} (h : e ≠ 0) : 1 ≤ rsN e ∧ rsN e ≤ 15 := by
  unfold rsN
  repeat' split
  all_goals omega
noncomputable def af_SteerWhole : AF := afOf Try.prog Try.f13 []
theorem af_SteerWhole_ok : AllOk Try.prog 13 af_SteerWhole := .flat Try.func13 (by kernel_rfl) (by kernel_rfl) (by kernel_rfl) (by kernel_rfl) (by kernel_rfl)
noncomputable def GEstc : List (Nat × Con) := [(45, .val [] cTrue38), (46, .val [.bytes, .rows (.barr 16)] cStSend), (43, .val [.bytes] cSxNer), (35, .val [.bytes] cRem), (42, .val [.bytes] cSxGet)]
theorem GEstc_ok : GOk Try.prog GEstc := .cons (enters_of Try.func45 (by kernel_rfl) rfl) lives38_con <| .cons (enters_of Try.func46 (by kernel_rfl) rfl) stSend_con <| .cons (enters_of Try.func43 (by kernel_rfl) rfl) rSxNer_con <| .cons (enters_of Try.func35 (by kernel_rfl) rfl) dtRem2_con <| .cons (enters_of Try.func42 (by kernel_rfl) rfl) rSxGet_con <| .nil
noncomputable def IEstc : List (Nat × AF) := []
theorem IEstc_ok : IOk Try.prog IEstc := .nil
noncomputable def CEstc : List (Nat × (List Nat × (S → Option S))) := []
theorem CEstc_ok : COk Try.prog CEstc := .nil
noncomputable def XEstc : List (Nat × (List Sh × (List V → PT))) := []
theorem XEstc_ok : XOk Try.prog XEstc := .nil
noncomputable def Estc : Env := ⟨Try.prog, GEstc, IEstc, CEstc, XEstc⟩
theorem Estc_ok : EnvOk Estc := ⟨by kernel_rfl, GEstc_ok, IEstc_ok, CEstc_ok, XEstc_ok⟩
def sh_SteerWhole : List Sh := [.bytes, .rows (.barr 16)]
theorem SteerWhole_t (b : List UInt8) (s : List V) : callV Estc af_SteerWhole [.bytes b, .rows (.barr 16) s] =
 bif decide ((↑s.length : Int) > (40 : Int)) then some (V.bool true)
 else
 bif
 andT true
 (decide (b.length ≤ (140737488351232 : Nat) ∧ s.length ≤ (1000000000 : Nat)) && (isB16 s && okS s)) then
 bif sdW b s != (0 : Int) then
 bif (↑(sdX b s).length : Int) == (0 : Int) then
 bif decide (sdW b s ≥ (1 : Int)) then
 bif decide (sdW b s ≤ (15 : Int)) then some (V.bool true) else some (V.bool false)
 else some (V.bool false)
 else some (V.bool false)
 else
 bif andT true (decide (b.length ≤ (140737488352000 : Nat))) then
 bif andT true (decide ((sdX b s).length ≤ (140737488352000 : Nat))) then
 bif nrE b == (0 : Int) then
 bif rtE (sdX b s) == (0 : Int) then
 bif gE (sdX b s) == (0 : Int) then
 bif rmB (sdX b s) == nrB b then
 bif decide ((↑s.length : Int) > (0 : Int)) then
 bif gD (sdX b s) == toA (s.getD (0 : Nat) V.undef) then
 bif decide ((↑(sdX b s).length : Int) ≤ (1500 : Int)) then
 bif andT true (Am.inB (0 : Int) s.length) && true then some (V.bool true) else none
 else bif andT true (Am.inB (0 : Int) s.length) && true then some (V.bool false) else none
 else bif andT true (Am.inB (0 : Int) s.length) && true then some (V.bool false) else none
 else some (V.bool false)
 else some (V.bool false)
 else some (V.bool false)
 else some (V.bool false)
 else some (V.bool false)
 else none
 else none
 else none := by kernel_rfl

theorem SteerWhole_v : ∀ xs, inRs 140737488351232 sh_SteerWhole xs = true → callV Estc af_SteerWhole xs = some (.bool true) := by
  intro xs h
  obtain ⟨zx1, zl1, rfl, zh1, zr1⟩ := inRs_cons h; clear h
  obtain ⟨b, rfl, hb⟩ := inR_bytes zh1; clear zh1
  obtain ⟨zx2, zl2, rfl, zh2, zr2⟩ := inRs_cons zr1; clear zr1
  obtain ⟨s, rfl, hs, qs⟩ := inR_rows zh2; clear zh2
  obtain rfl := inRs_nil zr2; clear zr2
  rw [SteerWhole_t]
  have h1 := isB16_of qs
  have h2 := okS_of qs
  rw [h1, h2]
  by_cases h3 : s.length ≤ 40
  rotate_left
  · simp (disch := omega) only [dec_t, dec_f, inB_t, inC_t, andT_t, cond_true, cond_false, Bool.and_true, Bool.true_and, w64, wu32, wu8, nble_t, nblt_t, Bool.not_true, Bool.not_false, Bool.not_not, ieq_t, ieq_f, ine_t, ine_f, true_and, and_true, andT_l]
  by_cases hw : sdW b s = 0
  · have hn : nrE b = 0 := by
      by_cases hn : nrE b = 0
      · exact hn
      · have := rsN_bd hn
        unfold sdW at hw
        rw [if_pos hn] at hw
        omega
    have hF : inE (nrB b) s [] = 0 := by
      unfold sdW at hw
      rw [if_neg (by omega)] at hw
      exact rsN_zero.1 hw
    have eX : sdX b s = inB (nrB b) s [] := by unfold sdX; rw [if_pos ⟨hn, hF⟩]
    have f := bkF hF h2 (barr_of qs) (by simp)
    have g := inF hF
    have e := rm_back hF f
    have hl := f.l
    have hl2 := g.l
    have hs1 := g.s1
    have hnl := nrB_len b
    rw [hw, eX, hn, e, f.r0, f.hd.e, f.hd.d]
    simp only [beq_self_eq_true]
    simp (disch := omega) only [dec_t, dec_f, inB_t, inC_t, andT_t, cond_true, cond_false, Bool.and_true, Bool.true_and, w64, wu32, wu8, nble_t, nblt_t, Bool.not_true, Bool.not_false, Bool.not_not, ieq_t, ieq_f, ine_t, ine_f, true_and, and_true, andT_l]
  · have eX : sdX b s = [] := by
      unfold sdX
      by_cases hn : nrE b = 0
      · rw [if_neg]
        rintro ⟨_, hF⟩
        unfold sdW at hw
        rw [if_neg (by omega), hF] at hw
        exact hw rfl
      · rw [if_neg (by omega)]
    have hb2 : 1 ≤ sdW b s ∧ sdW b s ≤ 15 := by
      unfold sdW at hw ⊢
      by_cases hn : nrE b = 0
      · rw [if_neg (by omega)] at hw ⊢
        exact rsN_bd (fun hq => hw (by rw [hq]; rfl))
      · rw [if_pos hn]
        exact rsN_bd hn
    rw [eX]
    simp only [List.length_nil]
    simp (disch := omega) only [dec_t, dec_f, inB_t, inC_t, andT_t, cond_true, cond_false, Bool.and_true, Bool.true_and, w64, wu32, wu8, nble_t, nblt_t, Bool.not_true, Bool.not_false, Bool.not_not, ieq_t, ieq_f, ine_t, ine_f, true_and, and_true, andT_l]
    try rfl
end Go.Proofs.Ytbojofchpnfnlaa
