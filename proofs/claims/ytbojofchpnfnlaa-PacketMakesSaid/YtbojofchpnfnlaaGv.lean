/- Part Gv of the proof: laws used by the law of this claim. -/
import Derived.Test.YtbojofchpnfnlaaGx
import Derived.Test.YtbojofchpnfnlaaGo
import Derived.Test.YtbojofchpnfnlaaGi
set_option linter.all false
namespace Go.Proofs.Ytbojofchpnfnlaa
open Go Go.Am Go.RowKit Go.Mix Go.Bas
set_option maxRecDepth 100000
noncomputable def af_lives13 : AF := afOf Try.prog Try.f47 []
theorem af_lives13_ok : AllOk Try.prog 47 af_lives13 := .flat Try.func47 (by kernel_rfl) (by kernel_rfl) (by kernel_rfl) (by kernel_rfl) (by kernel_rfl)
noncomputable def GEpki : List (Nat × Con) := [(48, .val [.barr 16, .barr 16, .agg [.int .i64, .int .i64, .int .u32, .int .u32, .int .i64, .int .i64, .int .i64, .int .i64, .rows (.agg [.int .i64, .bytes]), .bytes]] cPkTcp), (54, .val [.bytes] cPkParse), (52, .val [.int .i64] cReason)]
theorem GEpki_ok : GOk Try.prog GEpki := .cons (enters_of Try.func48 (by kernel_rfl) rfl) pkTcp_con <| .cons (enters_of Try.func54 (by kernel_rfl) rfl) pkParse_con <| .cons (enters_of Try.func52 (by kernel_rfl) rfl) pkReason_con <| .nil
noncomputable def IEpki : List (Nat × AF) := []
theorem IEpki_ok : IOk Try.prog IEpki := .nil
noncomputable def CEpki : List (Nat × (List Nat × (S → Option S))) := []
theorem CEpki_ok : COk Try.prog CEpki := .nil
noncomputable def XEpki : List (Nat × (List Sh × (List V → PT))) := []
theorem XEpki_ok : XOk Try.prog XEpki := .nil
noncomputable def Epki : Env := ⟨Try.prog, GEpki, IEpki, CEpki, XEpki⟩
theorem Epki_ok : EnvOk Epki := ⟨by kernel_rfl, GEpki_ok, IEpki_ok, CEpki_ok, XEpki_ok⟩
theorem lives13_v : callV Epki af_lives13 [] = some (.bool true) := by kernel_rfl
def cTrue13 : List V → Option (V × Bool)
  | [] => some (.bool true, true)
  | _ => none
theorem lives13_con : ∀ vs v, cTrue13 vs = some (v, true) → SpecV Try.prog 47 vs v := by
  intro vs v h; unfold cTrue13 at h; split at h
  · injection h with h; injection h with h hb; subst h
    exact callV_ok Epki_ok af_lives13_ok (lives13_v)
  · cases h
noncomputable def af_PacketMakes : AF := afOf Try.prog Try.f14 []
theorem af_PacketMakes_ok : AllOk Try.prog 14 af_PacketMakes := .flat Try.func14 (by kernel_rfl) (by kernel_rfl) (by kernel_rfl) (by kernel_rfl) (by kernel_rfl)
noncomputable def GEpkj : List (Nat × Con) := [(47, .val [] cTrue13), (48, .val [.barr 16, .barr 16, .agg [.int .i64, .int .i64, .int .u32, .int .u32, .int .i64, .int .i64, .int .i64, .int .i64, .rows (.agg [.int .i64, .bytes]), .bytes]] cPkTcp), (49, .val [.barr 16, .barr 16, .agg [.int .i64, .int .i64, .int .u32, .int .u32, .int .i64, .int .i64, .int .i64, .int .i64, .rows (.agg [.int .i64, .bytes]), .bytes]] cPkTcp), (50, .val [.barr 16, .barr 16, .agg [.int .i64, .int .i64, .int .u32, .bytes]] cPkIcmp), (51, .val [.barr 16, .barr 16, .agg [.int .i64, .int .i64, .int .u32, .bytes]] cPkIcmp), (52, .val [.int .i64] cReason), (53, .val [.int .i64] cReason)]

theorem GEpkj_ok : GOk Try.prog GEpkj := .cons (enters_of Try.func47 (by kernel_rfl) rfl) lives13_con <| .cons (enters_of Try.func48 (by kernel_rfl) rfl) pkTcp_con <| .cons (enters_of Try.func49 (by kernel_rfl) rfl) rPkTcp_con <| .cons (enters_of Try.func50 (by kernel_rfl) rfl) pkIcmp_con <| .cons (enters_of Try.func51 (by kernel_rfl) rfl) rPkIcmp_con <| .cons (enters_of Try.func52 (by kernel_rfl) rfl) pkReason_con <| .cons (enters_of Try.func53 (by kernel_rfl) rfl) rPkReason_con <| .nil

noncomputable def IEpkj : List (Nat × AF) := []
theorem IEpkj_ok : IOk Try.prog IEpkj := .nil
noncomputable def CEpkj : List (Nat × (List Nat × (S → Option S))) := []
theorem CEpkj_ok : COk Try.prog CEpkj := .nil
noncomputable def XEpkj : List (Nat × (List Sh × (List V → PT))) := []
theorem XEpkj_ok : XOk Try.prog XEpkj := .nil
noncomputable def Epkj : Env := ⟨Try.prog, GEpkj, IEpkj, CEpkj, XEpkj⟩
theorem Epkj_ok : EnvOk Epkj := ⟨by kernel_rfl, GEpkj_ok, IEpkj_ok, CEpkj_ok, XEpkj_ok⟩
def sh_PacketMakes : List Sh := [.agg [.barr 16, .barr 16], .agg [.int .i64, .int .i64, .int .u32, .int .u32, .int .i64, .int .i64, .int .i64, .int .i64, .rows (.agg [.int .i64, .bytes]), .bytes], .agg [.int .i64, .int .i64, .int .u32, .bytes]]
theorem PacketMakes_t (s : List UInt8) (d : List UInt8) (sp : Int) (dp : Int) (sq : Int) (ak : Int) (fl : Int) (wn : Int) (sm : Int) (ug : Int) (op : List V) (pl : List UInt8) (kd : Int) (cd : Int) (wd : Int) (body : List UInt8) : callV Epkj af_PacketMakes [.agg [.barr 16 s, .barr 16 d], .agg [.int .i64 sp, .int .i64 dp, .int .u32 sq, .int .u32 ak, .int .i64 fl, .int .i64 wn, .int .i64 sm, .int .i64 ug, .rows (.agg [.int .i64, .bytes]) op, .bytes pl], .agg [.int .i64 kd, .int .i64 cd, .int .u32 wd, .bytes body]] =
 bif decide ((↑op.length : Int) > (60 : Int)) then some (V.bool true)
 else
 bif decide ((↑pl.length : Int) > (3000 : Int)) then some (V.bool true)
 else
 bif decide ((↑body.length : Int) > (3000 : Int)) then some (V.bool true)
 else
 bif
 andT true
 (decide (op.length ≤ (4611686018427387904 : Nat)) &&
 (smallL op &&
 decide (((0 : Int) ≤ sq ∧ sq ≤ (4294967295 : Int)) ∧ (0 : Int) ≤ ak ∧ ak ≤ (4294967295 : Int)))) then
 bif
 andT true
 (decide (op.length ≤ (4611686018427387904 : Nat)) &&
 (smallL op &&
 decide
 (((0 : Int) ≤ sq ∧ sq ≤ (4294967295 : Int)) ∧ (0 : Int) ≤ ak ∧ ak ≤ (4294967295 : Int)))) then
 bif
 andT true
 (decide (body.length ≤ (140737488351232 : Nat) ∧ (0 : Int) ≤ wd ∧ wd < (4294967296 : Int))) then
 bif
 andT true
 (decide (body.length ≤ (140737488351232 : Nat) ∧ (0 : Int) ≤ wd ∧ wd < (4294967296 : Int))) then
 bif
 pkB s d
 { sp := sp, dp := dp, sq := sq, ak := ak, fl := fl, wn := wn, sm := sm, ug := ug, op := op, pl := pl } ==
 pkB s d
 { sp := sp, dp := dp, sq := sq, ak := ak, fl := fl, wn := wn, sm := sm, ug := ug, op := op, pl := pl } then
 bif
 pkE s d
 { sp := sp, dp := dp, sq := sq, ak := ak, fl := fl, wn := wn, sm := sm, ug := ug, op := op, pl := pl } ==
 pkE s d
 { sp := sp, dp := dp, sq := sq, ak := ak, fl := fl, wn := wn, sm := sm, ug := ug, op := op, pl := pl } then
 bif piB s d kd cd wd body == piB s d kd cd wd body then
 bif piE s d kd cd wd body == piE s d kd cd wd body then
 bif rsN kd == rsN kd then some (V.bool true) else some (V.bool false)
 else some (V.bool false)
 else some (V.bool false)
 else some (V.bool false)
 else some (V.bool false)
 else none
 else none
 else none
 else none := by kernel_rfl

theorem PacketMakes_v : ∀ xs, inRs 140737488351232 sh_PacketMakes xs = true → callV Epkj af_PacketMakes xs = some (.bool true) := by
  intro xs h
  obtain ⟨zx1, zl1, rfl, zh1, zr1⟩ := inRs_cons h; clear h
  obtain ⟨zg1, rfl, za1⟩ := inR_agg zh1; clear zh1
  obtain ⟨zx2, zl2, rfl, zh2, zr2⟩ := inRs_cons za1; clear za1
  obtain ⟨s, rfl, hs⟩ := inR_barr zh2; clear zh2
  obtain ⟨zx3, zl3, rfl, zh3, zr3⟩ := inRs_cons zr2; clear zr2
  obtain ⟨d, rfl, hd⟩ := inR_barr zh3; clear zh3
  obtain rfl := inRs_nil zr3; clear zr3
  obtain ⟨zx4, zl4, rfl, zh4, zr4⟩ := inRs_cons zr1; clear zr1
  obtain ⟨zg4, rfl, za4⟩ := inR_agg zh4; clear zh4
  obtain ⟨zx5, zl5, rfl, zh5, zr5⟩ := inRs_cons za4; clear za4
  obtain ⟨sp, rfl, hsp0, hsp1⟩ := inR_i64 zh5; clear zh5
  obtain ⟨zx6, zl6, rfl, zh6, zr6⟩ := inRs_cons zr5; clear zr5
  obtain ⟨dp, rfl, hdp0, hdp1⟩ := inR_i64 zh6; clear zh6
  obtain ⟨zx7, zl7, rfl, zh7, zr7⟩ := inRs_cons zr6; clear zr6
  obtain ⟨sq, rfl, hsq0, hsq1⟩ := inR_u32 zh7; clear zh7
  obtain ⟨zx8, zl8, rfl, zh8, zr8⟩ := inRs_cons zr7; clear zr7
  obtain ⟨ak, rfl, hak0, hak1⟩ := inR_u32 zh8; clear zh8
  obtain ⟨zx9, zl9, rfl, zh9, zr9⟩ := inRs_cons zr8; clear zr8
  obtain ⟨fl, rfl, hfl0, hfl1⟩ := inR_i64 zh9; clear zh9
  obtain ⟨zx10, zl10, rfl, zh10, zr10⟩ := inRs_cons zr9; clear zr9
  obtain ⟨wn, rfl, hwn0, hwn1⟩ := inR_i64 zh10; clear zh10
  obtain ⟨zx11, zl11, rfl, zh11, zr11⟩ := inRs_cons zr10; clear zr10
  obtain ⟨sm, rfl, hsm0, hsm1⟩ := inR_i64 zh11; clear zh11
  obtain ⟨zx12, zl12, rfl, zh12, zr12⟩ := inRs_cons zr11; clear zr11
  obtain ⟨ug, rfl, hug0, hug1⟩ := inR_i64 zh12; clear zh12
  obtain ⟨zx13, zl13, rfl, zh13, zr13⟩ := inRs_cons zr12; clear zr12
  obtain ⟨op, rfl, hop, qop⟩ := inR_rows zh13; clear zh13
  obtain ⟨zx14, zl14, rfl, zh14, zr14⟩ := inRs_cons zr13; clear zr13
  obtain ⟨pl, rfl, hpl⟩ := inR_bytes zh14; clear zh14
  obtain rfl := inRs_nil zr14; clear zr14
  obtain ⟨zx15, zl15, rfl, zh15, zr15⟩ := inRs_cons zr4; clear zr4
  obtain ⟨zg15, rfl, za15⟩ := inR_agg zh15; clear zh15
  obtain ⟨zx16, zl16, rfl, zh16, zr16⟩ := inRs_cons za15; clear za15
  obtain ⟨kd, rfl, hkd0, hkd1⟩ := inR_i64 zh16; clear zh16
  obtain ⟨zx17, zl17, rfl, zh17, zr17⟩ := inRs_cons zr16; clear zr16
  obtain ⟨cd, rfl, hcd0, hcd1⟩ := inR_i64 zh17; clear zh17
  obtain ⟨zx18, zl18, rfl, zh18, zr18⟩ := inRs_cons zr17; clear zr17
  obtain ⟨wd, rfl, hwd0, hwd1⟩ := inR_u32 zh18; clear zh18
  obtain ⟨zx19, zl19, rfl, zh19, zr19⟩ := inRs_cons zr18; clear zr18
  obtain ⟨body, rfl, hbody⟩ := inR_bytes zh19; clear zh19
  obtain rfl := inRs_nil zr19; clear zr19
  obtain rfl := inRs_nil zr15; clear zr15
  rw [PacketMakes_t, smallL_of (smallC_of qop)]
  simp only [beq_self_eq_true]
  by_cases h1 : op.length ≤ 60
  · by_cases h2 : pl.length ≤ 3000
    · by_cases h3 : body.length ≤ 3000
      · simp (disch := omega) only [dec_t, dec_f, inB_t, inC_t, andT_t, cond_true, cond_false, Bool.and_true, Bool.true_and, w64, wu32, wu8, nble_t, nblt_t, Bool.not_true, Bool.not_false, Bool.not_not, ieq_t, ieq_f, ine_t, ine_f, true_and, and_true, andT_l]
      · simp (disch := omega) only [dec_t, dec_f, inB_t, inC_t, andT_t, cond_true, cond_false, Bool.and_true, Bool.true_and, w64, wu32, wu8, nble_t, nblt_t, Bool.not_true, Bool.not_false, Bool.not_not, ieq_t, ieq_f, ine_t, ine_f, true_and, and_true, andT_l]
    · simp (disch := omega) only [dec_t, dec_f, inB_t, inC_t, andT_t, cond_true, cond_false, Bool.and_true, Bool.true_and, w64, wu32, wu8, nble_t, nblt_t, Bool.not_true, Bool.not_false, Bool.not_not, ieq_t, ieq_f, ine_t, ine_f, true_and, and_true, andT_l]
  · simp (disch := omega) only [dec_t, dec_f, inB_t, inC_t, andT_t, cond_true, cond_false, Bool.and_true, Bool.true_and, w64, wu32, wu8, nble_t, nblt_t, Bool.not_true, Bool.not_false, Bool.not_not, ieq_t, ieq_f, ine_t, ine_f, true_and, and_true, andT_l]
end Go.Proofs.Ytbojofchpnfnlaa
