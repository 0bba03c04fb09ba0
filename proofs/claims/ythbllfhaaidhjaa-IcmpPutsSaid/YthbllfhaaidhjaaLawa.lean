/- IcmpPuts by the abstract machine: what the law returns. -/
import Derived.Test.YthbllfhaaidhjaaConc
import Derived.Test.YthbllfhaaidhjaaOpb
namespace Go.Proofs.Ythbllfhaaidhjaa
open Go Go.Am Go.RowKit Go.Mix Go.Bas
set_option maxRecDepth 100000
noncomputable def af_IcmpPuts : AF := afOf Try.prog Try.f3 []
theorem af_IcmpPuts_ok : AllOk Try.prog 3 af_IcmpPuts := .flat Try.func3 (by kernel_rfl) (by kernel_rfl) (by kernel_rfl) (by kernel_rfl) (by kernel_rfl)
def cTrue : List V → Option (V × Bool)
  | [] => some (.bool true, true)
  | _ => none
theorem lives8_con : ∀ vs v, cTrue vs = some (v, true) → SpecV Try.prog 20 vs v := by
  intro vs v h; unfold cTrue at h; split at h
  · injection h with h; injection h with h hb; subst h
    exact callV_ok E8_ok af_lives8_ok lives8_v
  · cases h
noncomputable def G8p : List (Nat × Con) := [(20, .val [] cTrue), (21, .val [.barr 16, .barr 16, .agg [.int .i64, .int .i64, .int .u32, .bytes]] cPut), (22, .val [.barr 16, .barr 16, .agg [.int .i64, .int .i64, .int .u32, .bytes]] cPut)]
theorem G8p_ok : GOk Try.prog G8p := .cons (enters_of Try.func20 (by kernel_rfl) rfl) lives8_con <| .cons (enters_of Try.func21 (by kernel_rfl) rfl) IPut_con <| .cons (enters_of Try.func22 (by kernel_rfl) rfl) rIPut_con .nil
noncomputable def E8p : Env := ⟨Try.prog, G8p, [], []⟩
theorem E8p_ok : EnvOk E8p := ⟨by kernel_rfl, G8p_ok, IOk.nil, COk.nil⟩
def sh_IcmpPuts : List Sh := [.agg [.barr 16, .barr 16], .agg [.int .i64, .int .i64, .int .u32, .bytes]]
theorem IcmpPuts_t (s : List UInt8) (d : List UInt8) (kd : Int) (cd : Int) (wd : Int) (body : List UInt8) : callV E8p af_IcmpPuts [.agg [.barr 16 s, .barr 16 d], .agg [.int .i64 kd, .int .i64 cd, .int .u32 wd, .bytes body]] =
    bif decide (↑body.length > (3000 : Int)) then some (V.bool true)
      else
        bif putM s d kd cd wd body == putM s d kd cd wd body then
          bif
              andT (andT true (decide (body.length ≤ (140737488351232 : Nat) ∧ (0 : Int) ≤ wd ∧ wd < (4294967296 : Int))))
                  (decide (body.length ≤ (140737488351232 : Nat) ∧ (0 : Int) ≤ wd ∧ wd < (4294967296 : Int))) &&
                true then
            some (V.bool true)
          else none
        else
          bif
              andT (andT true (decide (body.length ≤ (140737488351232 : Nat) ∧ (0 : Int) ≤ wd ∧ wd < (4294967296 : Int))))
                  (decide (body.length ≤ (140737488351232 : Nat) ∧ (0 : Int) ≤ wd ∧ wd < (4294967296 : Int))) &&
                true then
            some (V.bool false)
          else none := by kernel_rfl

theorem IcmpPuts_v : ∀ xs, inRs 140737488351232 sh_IcmpPuts xs = true → callV E8p af_IcmpPuts xs = some (.bool true) := by
  intro xs h
  obtain ⟨zx1, zl1, rfl, zh1, zr1⟩ := inRs_cons h; clear h
  obtain ⟨zg1, rfl, za1⟩ := inR_agg zh1; clear zh1
  obtain ⟨zx2, zl2, rfl, zh2, zr2⟩ := inRs_cons za1; clear za1
  obtain ⟨s, rfl, hs⟩ := inR_barr zh2; clear zh2
  obtain ⟨zx3, zl3, rfl, zh3, zr3⟩ := inRs_cons zr2; clear zr2
  obtain ⟨d, rfl, hd⟩ := inR_barr zh3; clear zh3
  obtain rfl := inRs_nil zr3; clear zr3
  obtain ⟨zx4, zl4, rfl, zh4, zr4⟩ := inRs_cons zr1; clear zr1
  obtain ⟨zg4, rfl, za4⟩ := inR_agg zh4; clear zh4
  obtain ⟨zx5, zl5, rfl, zh5, zr5⟩ := inRs_cons za4; clear za4
  obtain ⟨kd, rfl, hkd0, hkd1⟩ := inR_i64 zh5; clear zh5
  obtain ⟨zx6, zl6, rfl, zh6, zr6⟩ := inRs_cons zr5; clear zr5
  obtain ⟨cd, rfl, hcd0, hcd1⟩ := inR_i64 zh6; clear zh6
  obtain ⟨zx7, zl7, rfl, zh7, zr7⟩ := inRs_cons zr6; clear zr6
  obtain ⟨wd, rfl, hwd0, hwd1⟩ := inR_u32 zh7; clear zh7
  obtain ⟨zx8, zl8, rfl, zh8, zr8⟩ := inRs_cons zr7; clear zr7
  obtain ⟨body, rfl, hbody⟩ := inR_bytes zh8; clear zh8
  obtain rfl := inRs_nil zr8; clear zr8
  obtain rfl := inRs_nil zr4; clear zr4
  rw [IcmpPuts_t]
  have h1 : decide (body.length ≤ 140737488351232 ∧ 0 ≤ wd ∧ wd < 4294967296) = true := decide_eq_true ⟨hbody, hwd0, by omega⟩
  have h2 : (putM s d kd cd wd body == putM s d kd cd wd body) = true := beq_self_eq_true _
  rw [h1, h2]
  cases decide (↑body.length > (3000 : Int)) <;> rfl
end Go.Proofs.Ythbllfhaaidhjaa
