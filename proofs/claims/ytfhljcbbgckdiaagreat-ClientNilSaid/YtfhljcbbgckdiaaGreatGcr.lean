/- Part Gcr of the proof: laws used by the law of this claim. -/
import Derived.Test.YtfhljcbbgckdiaaGreatGcn
set_option linter.all false
namespace Go.Proofs.YtfhljcbbgckdiaaGreat
open Go Go.Am Go.RowKit Go.Bas
set_option maxRecDepth 100000
noncomputable def GEcls : List (Nat × Con) := [(41, .val [.bytes] cPkParse)]
theorem GEcls_ok : GOk Tryz.prog GEcls := .cons (enters_of Tryz.func41 (by kernel_rfl) rfl) pkParse_con <| .nil
noncomputable def IEcls : List (Nat × AF) := [(22, af_clIs), (42, af_clFlOf)]
theorem IEcls_ok : IOk Tryz.prog IEcls := .cons af_clIs_ok <| .cons af_clFlOf_ok <| .nil
noncomputable def CEcls : List (Nat × (List Nat × (S → Option (Bool × Tr)))) := []
theorem CEcls_ok : COk Tryz.prog CEcls := .nil
noncomputable def XEcls : List (Nat × (List Sh × (List V → PT))) := []
theorem XEcls_ok : XOk Tryz.prog XEcls := .nil
noncomputable def Ecls : Env := ⟨Tryz.prog, GEcls, IEcls, CEcls, XEcls, false⟩
theorem Ecls_ok : EnvOk Ecls := ⟨by kernel_rfl, GEcls_ok, IEcls_ok, CEcls_ok, XEcls_ok⟩
def nmV (v : V) : Prop := ∃ a n l, v = .agg [.bool false, .barr 16 a, .int .i64 n, .rows shCall l]
def nmO : V := .ownv 34 (.rows .bytes [])
theorem noHan_t (b : List UInt8) : callV Ecls af_clHandle [.nil .ptr, .bytes b] = bif (pqX b).k != 6 then some nmO else some nmO := by kernel_rfl
theorem noHan_u (b : List UInt8) (a : List UInt8) (n : Int) (l : List V) : callV Ecls af_clHandle [.vref shCl (.agg [.bool false, .barr 16 a, .int .i64 n, .rows shCall l]), .bytes b] = bif (pqX b).k != 6 then some nmO else some nmO := by kernel_rfl
theorem noTick_t : callV Ecls af_clTick [.nil .ptr] = some nmO := by kernel_rfl
theorem noTick_u (a : List UInt8) (n : Int) (l : List V) : callV Ecls af_clTick [.vref shCl (.agg [.bool false, .barr 16 a, .int .i64 n, .rows shCall l])] = some nmO := by kernel_rfl
theorem noRes_t (i : Int) : callV Ecls af_clResend [.nil .ptr, .int .i64 i] = some nmO := by kernel_rfl
theorem noRes_u (i : Int) (a : List UInt8) (n : Int) (l : List V) : callV Ecls af_clResend [.vref shCl (.agg [.bool false, .barr 16 a, .int .i64 n, .rows shCall l]), .int .i64 i] = some nmO := by kernel_rfl
theorem noCal_t : callV Ecls af_clCalls [.nil .ptr] = some (.ownv 39 (.rows shCall [])) := by kernel_rfl
theorem noCal_u (a : List UInt8) (n : Int) (l : List V) : callV Ecls af_clCalls [.vref shCl (.agg [.bool false, .barr 16 a, .int .i64 n, .rows shCall l])] = some (.ownv 39 (.rows shCall [])) := by kernel_rfl
/-- nothing, told as no bytes -/
def nmB : V := .ownv 34 (.bytes [])
theorem nm_spec {f : FuncId} {vs : List V} (h : SpecV Tryz.prog f vs nmO) : SpecV Tryz.prog f vs nmB := by
  intro O w cs hO hv
  refine (h O w cs hO hv).mono ?_
  rintro e w' ⟨hb, c, rfl, ho⟩
  refine ⟨hb, c, rfl, ?_⟩
  cases ho with
  | own hr ho =>
    rename_i A n k ds
    cases hr with
    | rows he hr =>
      cases hr
      exact .own (ds := []) (.bytes (l := [])) ho
  | val h => cases h with | one a b => cases a | agg a b => cases a
noncomputable def cNoHan : List V → Option (V × Bool)
  | [.nil .ptr, .bytes _] => some (nmB, true)
  | [.vref sh v, .bytes _] => some (nmB, okG (sh = shCl ∧ nmV v))
  | _ => none
noncomputable def cNoTick : List V → Option (V × Bool)
  | [.nil .ptr] => some (nmB, true)
  | [.vref sh v] => some (nmB, okG (sh = shCl ∧ nmV v))
  | _ => none
noncomputable def cNoRes : List V → Option (V × Bool)
  | [.nil .ptr, .int .i64 _] => some (nmB, true)
  | [.vref sh v, .int .i64 _] => some (nmB, okG (sh = shCl ∧ nmV v))
  | _ => none
noncomputable def cNoCal : List V → Option (V × Bool)
  | [.nil .ptr] => some (.ownv 39 (.rows shCall []), true)
  | [.vref sh v] => some (.ownv 39 (.rows shCall []), okG (sh = shCl ∧ nmV v))
  | _ => none
theorem noHan_con : ∀ vs v, cNoHan vs = some (v, true) → SpecV Tryz.prog 18 vs v := by
  intro vs v h
  unfold cNoHan at h
  split at h
  · injection h with h; injection h with h hb; subst h
    rename_i b
    exact nm_spec (callV_ok Ecls_ok af_clHandle_ok (by rw [noHan_t]; cases (pqX b).k != 6 <;> rfl))
  · injection h with h; injection h with h hb; subst h
    obtain ⟨rfl, a, n, l, rfl⟩ := okG_p hb
    rename_i b
    exact nm_spec (callV_ok Ecls_ok af_clHandle_ok (by rw [noHan_u]; cases (pqX b).k != 6 <;> rfl))
  · cases h
theorem noTick_con : ∀ vs v, cNoTick vs = some (v, true) → SpecV Tryz.prog 10 vs v := by
  intro vs v h
  unfold cNoTick at h
  split at h
  · injection h with h; injection h with h hb; subst h
    exact nm_spec (callV_ok Ecls_ok af_clTick_ok noTick_t)
  · injection h with h; injection h with h hb; subst h
    obtain ⟨rfl, a, n, l, rfl⟩ := okG_p hb
    exact nm_spec (callV_ok Ecls_ok af_clTick_ok (noTick_u a n l))
  · cases h
theorem noRes_con : ∀ vs v, cNoRes vs = some (v, true) → SpecV Tryz.prog 19 vs v := by
  intro vs v h
  unfold cNoRes at h
  split at h
  · injection h with h; injection h with h hb; subst h
    exact nm_spec (callV_ok Ecls_ok af_clResend_ok (noRes_t _))
  · injection h with h; injection h with h hb; subst h
    obtain ⟨rfl, a, n, l, rfl⟩ := okG_p hb
    exact nm_spec (callV_ok Ecls_ok af_clResend_ok (noRes_u _ a n l))
  · cases h
theorem noCal_con : ∀ vs v, cNoCal vs = some (v, true) → SpecV Tryz.prog 11 vs v := by
  intro vs v h
  unfold cNoCal at h
  split at h
  · injection h with h; injection h with h hb; subst h
    exact callV_ok Ecls_ok af_clCalls_ok noCal_t
  · injection h with h; injection h with h hb; subst h
    obtain ⟨rfl, a, n, l, rfl⟩ := okG_p hb
    exact callV_ok Ecls_ok af_clCalls_ok (noCal_u a n l)
  · cases h
noncomputable def af_ClientNil : AF := afOf Tryz.prog Tryz.f6 []
theorem af_ClientNil_ok : AllOk Tryz.prog 6 af_ClientNil := .flat Tryz.func6 (by kernel_rfl) (by kernel_rfl) (by kernel_rfl) (by kernel_rfl) (by kernel_rfl)
noncomputable def GEclu0 : List (Nat × Con) := [(20, .val [.int .i64, .int .i64] cStream), (21, .val [.int .i64, .int .i64] cStream), (9, .val [] cTrue40)]
theorem GEclu0_ok : GOk Tryz.prog GEclu0 := .cons (enters_of Tryz.func20 (by kernel_rfl) rfl) clStream_con <| .cons (enters_of Tryz.func21 (by kernel_rfl) rfl) rClStream_con <| .cons (enters_of Tryz.func9 (by kernel_rfl) rfl) clLives40_con <| .nil
noncomputable def IEclu0 : List (Nat × AF) := [(8, af_clConn), (16, af_clSend), (17, af_clClose), (22, af_clIs), (40, af_clFree)]
theorem IEclu0_ok : IOk Tryz.prog IEclu0 := .cons af_clConn_ok <| .cons af_clSend_ok <| .cons af_clClose_ok <| .cons af_clIs_ok <| .cons af_clFree_ok <| .nil
noncomputable def CEclu0 : List (Nat × (List Nat × (S → Option (Bool × Tr)))) := []
theorem CEclu0_ok : COk Tryz.prog CEclu0 := .nil
noncomputable def XEclu0 : List (Nat × (List Sh × (List V → PT))) := []
theorem XEclu0_ok : XOk Tryz.prog XEclu0 := .nil
noncomputable def Gclu : List (Nat × Con) := (18, .val [.other .ptr, .bytes] cNoHan) :: (10, .val [.other .ptr] cNoTick) :: (19, .val [.other .ptr, .int .i64] cNoRes) :: (11, .val [.other .ptr] cNoCal) :: GEclu0
theorem Gclu_ok : GOk Tryz.prog Gclu := .cons (enters_of Tryz.func18 (by kernel_rfl) rfl) noHan_con <| .cons (enters_of Tryz.func10 (by kernel_rfl) rfl) noTick_con <| .cons (enters_of Tryz.func19 (by kernel_rfl) rfl) noRes_con <| .cons (enters_of Tryz.func11 (by kernel_rfl) rfl) noCal_con GEclu0_ok
noncomputable def Eclu : Env := ⟨Tryz.prog, Gclu, IEclu0, [], [], false⟩
theorem Eclu_ok : EnvOk Eclu := ⟨by kernel_rfl, Gclu_ok, IEclu0_ok, CEclu0_ok, XEclu0_ok⟩
def sh_ClientNil : List Sh := [.agg [.int .i64, .barr 16, .int .i64, .int .i64, .bytes], .int .i64, .int .i64]
def nmZ : V := .agg [.bool false, .barr 16 (List.replicate 16 0), .int .i64 0, .rows shCall []]
noncomputable def nmK : Bool := okG (shCl = shCl ∧ nmV nmZ)
theorem ClientNil_t (k : Int) (d : List UInt8) (n : Int) (m : Int) (b : List UInt8) (fr : Int) (nn : Int) : callV Eclu af_ClientNil [.agg [.int .i64 k, .barr 16 d, .int .i64 n, .int .i64 m, .bytes b], .int .i64 fr, .int .i64 nn] =
 bif stL (mx0 fr) (mnS nn).toNat == stL (mx0 fr) (mnS nn).toNat then (bif andT (andT (andT (andT true nmK) nmK) nmK) nmK && true then some (.bool true) else none)
 else (bif andT (andT (andT (andT true nmK) nmK) nmK) nmK && true then some (.bool false) else none) := by kernel_rfl
theorem ClientNil_v : ∀ xs, inRs 140737488351232 sh_ClientNil xs = true → callV Eclu af_ClientNil xs = some (.bool true) := by
  intro xs h
  obtain ⟨zx1, zl1, rfl, zh1, zr1⟩ := inRs_cons h; clear h
  obtain ⟨zg1, rfl, za1⟩ := inR_agg zh1; clear zh1
  obtain ⟨zx2, zl2, rfl, zh2, zr2⟩ := inRs_cons za1; clear za1
  obtain ⟨k, rfl, hk0, hk1⟩ := inR_i64 zh2; clear zh2
  obtain ⟨zx3, zl3, rfl, zh3, zr3⟩ := inRs_cons zr2; clear zr2
  obtain ⟨d, rfl, hd⟩ := inR_barr zh3; clear zh3
  obtain ⟨zx4, zl4, rfl, zh4, zr4⟩ := inRs_cons zr3; clear zr3
  obtain ⟨n, rfl, hn0, hn1⟩ := inR_i64 zh4; clear zh4
  obtain ⟨zx5, zl5, rfl, zh5, zr5⟩ := inRs_cons zr4; clear zr4
  obtain ⟨m, rfl, hm0, hm1⟩ := inR_i64 zh5; clear zh5
  obtain ⟨zx6, zl6, rfl, zh6, zr6⟩ := inRs_cons zr5; clear zr5
  obtain ⟨b, rfl, hb⟩ := inR_bytes zh6; clear zh6
  obtain rfl := inRs_nil zr6; clear zr6
  obtain ⟨zx7, zl7, rfl, zh7, zr7⟩ := inRs_cons zr1; clear zr1
  obtain ⟨fr, rfl, hfr0, hfr1⟩ := inR_i64 zh7; clear zh7
  obtain ⟨zx8, zl8, rfl, zh8, zr8⟩ := inRs_cons zr7; clear zr7
  obtain ⟨nn, rfl, hnn0, hnn1⟩ := inR_i64 zh8; clear zh8
  obtain rfl := inRs_nil zr8; clear zr8
  rw [ClientNil_t, show nmK = true from okG_t ⟨rfl, _, _, _, rfl⟩, beq_self_eq_true]
  rfl
end Go.Proofs.YtfhljcbbgckdiaaGreat
