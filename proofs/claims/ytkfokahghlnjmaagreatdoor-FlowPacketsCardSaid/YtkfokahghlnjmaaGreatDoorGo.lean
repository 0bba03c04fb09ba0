/- Part Go of the proof: laws used by the law of this claim. -/
import Derived.Test.YtkfokahghlnjmaaGreatDoorGu
import Derived.Test.YtkfokahghlnjmaaGreatDoorGl
set_option linter.all false
namespace Go.Proofs.YtkfokahghlnjmaaGreatDoor
open Go Go.Am Go.RowKit Go.Mix Go.Bas
abbrev fb (n : Int) (j : Nat) : Bool := (BitVec.ofInt 64 n).getLsbD j
end Go.Proofs.YtkfokahghlnjmaaGreatDoor

namespace Go.Proofs.YtkfokahghlnjmaaGreatDoor
open Go Go.Am Go.RowKit Go.Mix Go.Bas
set_option maxRecDepth 100000
/-- where the payload begins; the options' bytes -/
def tpH (b : List UInt8) : Int := gt b 12 / 16 * 4
def tpO (b : List UInt8) : List UInt8 := cutL b 20 (tpH b).toNat
def tpE (b : List UInt8) : Int :=
  if b.length < 20 then 3 else if gt b 12 % 16 ≠ 0 ∨ gt b 12 / 16 < 5 then 5 else if gt b 12 / 16 * 4 > b.length then 3 else topE (tpO b)
end Go.Proofs.YtkfokahghlnjmaaGreatDoor

namespace Go.Proofs.YtkfokahghlnjmaaGreatDoor
open Go Go.Am Go.RowKit Go.Mix Go.Bas
set_option maxRecDepth 100000
end Go.Proofs.YtkfokahghlnjmaaGreatDoor

namespace Go.Proofs.YtkfokahghlnjmaaGreatDoor
open Go Go.Am Go.RowKit Go.Mix Go.Bas
set_option maxRecDepth 100000
noncomputable def af_tcpField : AF := afOf Tryz.prog Tryz.f109 [.unr 6]
theorem af_tcpField_ok : AllOk Tryz.prog 109 af_tcpField := .flat Tryz.func109 (by kernel_rfl) (by kernel_rfl) (by kernel_rfl) (by kernel_rfl) (by kernel_rfl)
noncomputable def af_tcF1 : AF := afOf Tryz.prog Tryz.f112 []
theorem af_tcF1_ok : AllOk Tryz.prog 112 af_tcF1 := .flat Tryz.func112 (by kernel_rfl) (by kernel_rfl) (by kernel_rfl) (by kernel_rfl) (by kernel_rfl)
noncomputable def af_tcF2 : AF := afOf Tryz.prog Tryz.f113 []
theorem af_tcF2_ok : AllOk Tryz.prog 113 af_tcF2 := .flat Tryz.func113 (by kernel_rfl) (by kernel_rfl) (by kernel_rfl) (by kernel_rfl) (by kernel_rfl)
noncomputable def af_tcF3 : AF := afOf Tryz.prog Tryz.f114 []
theorem af_tcF3_ok : AllOk Tryz.prog 114 af_tcF3 := .flat Tryz.func114 (by kernel_rfl) (by kernel_rfl) (by kernel_rfl) (by kernel_rfl) (by kernel_rfl)
noncomputable def af_tcF4 : AF := afOf Tryz.prog Tryz.f115 []
theorem af_tcF4_ok : AllOk Tryz.prog 115 af_tcF4 := .flat Tryz.func115 (by kernel_rfl) (by kernel_rfl) (by kernel_rfl) (by kernel_rfl) (by kernel_rfl)
noncomputable def af_tcF5 : AF := afOf Tryz.prog Tryz.f116 []
theorem af_tcF5_ok : AllOk Tryz.prog 116 af_tcF5 := .flat Tryz.func116 (by kernel_rfl) (by kernel_rfl) (by kernel_rfl) (by kernel_rfl) (by kernel_rfl)
noncomputable def af_tcpParse : AF := afOf Tryz.prog Tryz.f106 []
theorem af_tcpParse_ok : AllOk Tryz.prog 106 af_tcpParse := .flat Tryz.func106 (by kernel_rfl) (by kernel_rfl) (by kernel_rfl) (by kernel_rfl) (by kernel_rfl)
noncomputable def af_rTcpParse : AF := afOf Tryz.prog Tryz.f12 []
theorem af_rTcpParse_ok : AllOk Tryz.prog 12 af_rTcpParse := .flat Tryz.func12 (by kernel_rfl) (by kernel_rfl) (by kernel_rfl) (by kernel_rfl) (by kernel_rfl)
noncomputable def af_rTcTwo : AF := afOf Tryz.prog Tryz.f26 []
theorem af_rTcTwo_ok : AllOk Tryz.prog 26 af_rTcTwo := .flat Tryz.func26 (by kernel_rfl) (by kernel_rfl) (by kernel_rfl) (by kernel_rfl) (by kernel_rfl)
noncomputable def af_rTcFour : AF := afOf Tryz.prog Tryz.f27 []
theorem af_rTcFour_ok : AllOk Tryz.prog 27 af_rTcFour := .flat Tryz.func27 (by kernel_rfl) (by kernel_rfl) (by kernel_rfl) (by kernel_rfl) (by kernel_rfl)
noncomputable def GEtce0 : List (Nat × Con) := [(47, .val [.bytes, .int .i64] cU16), (31, .val [.bytes, .int .i64] cU32)]
theorem GEtce0_ok : GOk Tryz.prog GEtce0 := .cons (enters_of Tryz.func47 (by kernel_rfl) rfl) rU16_con <| .cons (enters_of Tryz.func31 (by kernel_rfl) rfl) rU32_con <| .nil
noncomputable def IEtce0 : List (Nat × AF) := []
theorem IEtce0_ok : IOk Tryz.prog IEtce0 := .nil
noncomputable def CEtce0 : List (Nat × (List Nat × (S → Option (Bool × Tr)))) := []
theorem CEtce0_ok : COk Tryz.prog CEtce0 := .nil
noncomputable def XEtce0 : List (Nat × (List Sh × (List V → PT))) := []
theorem XEtce0_ok : XOk Tryz.prog XEtce0 := .nil
noncomputable def Etce0 : Env := ⟨Tryz.prog, GEtce0, IEtce0, CEtce0, XEtce0⟩
theorem Etce0_ok : EnvOk Etce0 := ⟨by kernel_rfl, GEtce0_ok, IEtce0_ok, CEtce0_ok, XEtce0_ok⟩
theorem rTcTwo_v (b : List UInt8) (i : Int) : callV Etce0 af_rTcTwo [.bytes b, .int .i64 i] = some (.int .i64 (u16 b i).1) := by kernel_rfl
theorem rTcFour_t (b : List UInt8) (i : Int) : callV Etce0 af_rTcFour [.bytes b, .int .i64 i] = bif andT true (decide (i ≤ 9223372036854775807)) then some (.int .u32 (u32 b i).1) else none := by kernel_rfl
theorem rTcFour_v (b : List UInt8) (i : Int) (h : i ≤ 9223372036854775807) : callV Etce0 af_rTcFour [.bytes b, .int .i64 i] = some (.int .u32 (u32 b i).1) := by
  rw [rTcFour_t, decide_eq_true h]; rfl
def cTcTwo : List V → Option (V × Bool)
  | [.bytes b, .int .i64 i] => some (.int .i64 (u16 b i).1, true)
  | _ => none
def cTcFour : List V → Option (V × Bool)
  | [.bytes b, .int .i64 i] => some (.int .u32 (u32 b i).1, decide (i ≤ 9223372036854775807))
  | _ => none
theorem rTcTwo_con : ∀ vs v, cTcTwo vs = some (v, true) → SpecV Tryz.prog 26 vs v := by
  intro vs v h; unfold cTcTwo at h; split at h
  · rename_i b i
    injection h with h; injection h with h hb; subst h
    exact callV_ok Etce0_ok af_rTcTwo_ok (rTcTwo_v b i)
  · cases h
theorem rTcFour_con : ∀ vs v, cTcFour vs = some (v, true) → SpecV Tryz.prog 27 vs v := by
  intro vs v h; unfold cTcFour at h; split at h
  · rename_i b i
    injection h with h; injection h with h hb; subst h
    exact callV_ok Etce0_ok af_rTcFour_ok (rTcFour_v b i (of_decide_eq_true hb))
  · cases h
noncomputable def GEtce : List (Nat × Con) := [(108, .val [.bytes] cTopPar), (25, .val [.bytes] cTopPar), (44, .val [.bytes] cClone), (37, .val [.bytes, .int .i64] cU16), (36, .val [.bytes, .int .i64] cU32), (26, .val [.bytes, .int .i64] cTcTwo), (27, .val [.bytes, .int .i64] cTcFour)]
theorem GEtce_ok : GOk Tryz.prog GEtce := .cons (enters_of Tryz.func108 (by kernel_rfl) rfl) TopPar_con <| .cons (enters_of Tryz.func25 (by kernel_rfl) rfl) rToptParse_con <| .cons (enters_of Tryz.func44 (by kernel_rfl) rfl) Clone_con <| .cons (enters_of Tryz.func37 (by kernel_rfl) rfl) U16_con <| .cons (enters_of Tryz.func36 (by kernel_rfl) rfl) U32_con <| .cons (enters_of Tryz.func26 (by kernel_rfl) rfl) rTcTwo_con <| .cons (enters_of Tryz.func27 (by kernel_rfl) rfl) rTcFour_con <| .nil
noncomputable def IEtce : List (Nat × AF) := [(109, af_tcpField), (112, af_tcF1), (113, af_tcF2), (114, af_tcF3), (115, af_tcF4), (116, af_tcF5)]
theorem IEtce_ok : IOk Tryz.prog IEtce := .cons af_tcpField_ok <| .cons af_tcF1_ok <| .cons af_tcF2_ok <| .cons af_tcF3_ok <| .cons af_tcF4_ok <| .cons af_tcF5_ok <| .nil
noncomputable def CEtce : List (Nat × (List Nat × (S → Option (Bool × Tr)))) := []
theorem CEtce_ok : COk Tryz.prog CEtce := .nil
noncomputable def XEtce : List (Nat × (List Sh × (List V → PT))) := []
theorem XEtce_ok : XOk Tryz.prog XEtce := .nil
noncomputable def Etce : Env := ⟨Tryz.prog, GEtce, IEtce, CEtce, XEtce⟩
theorem Etce_ok : EnvOk Etce := ⟨by kernel_rfl, GEtce_ok, IEtce_ok, CEtce_ok, XEtce_ok⟩
theorem tcpParse_t (b : List UInt8) : callV Etce af_tcpParse [.bytes b] =
 bif decide ((↑b.length : Int) < (20 : Int)) then
 some
 (V.tup
 [V.agg
 [V.int IntKind.i64 (0 : Int), V.int IntKind.i64 (0 : Int), V.int IntKind.u32 (0 : Int),
 V.int IntKind.u32 (0 : Int), V.int IntKind.i64 (0 : Int), V.int IntKind.i64 (0 : Int),
 V.int IntKind.i64 (0 : Int), V.int IntKind.i64 (0 : Int),
 V.rows (Sh.agg [Sh.int IntKind.i64, Sh.bytes]) [], V.bytes []],
 V.int IntKind.i64 (3 : Int)])
 else
 bif andT true (inB (12 : Int) b.length) then
 bif bits BinOp.and IntKind.u8 (gt b (12 : Nat)) (15 : Int) != (0 : Int) then
 bif andT true (inB (12 : Int) b.length) then
 some
 (V.tup
 [V.agg
 [V.int IntKind.i64 (0 : Int), V.int IntKind.i64 (0 : Int), V.int IntKind.u32 (0 : Int),
 V.int IntKind.u32 (0 : Int), V.int IntKind.i64 (0 : Int), V.int IntKind.i64 (0 : Int),
 V.int IntKind.i64 (0 : Int), V.int IntKind.i64 (0 : Int),
 V.rows (Sh.agg [Sh.int IntKind.i64, Sh.bytes]) [], V.bytes []],
 V.int IntKind.i64 (5 : Int)])
 else none
 else
 bif andT true (inB (12 : Int) b.length) then
 bif
 decide
 (IntKind.i64.wrap (IntKind.i64.wrap ((gt b (12 : Nat)).fdiv (16 : Int)) * (4 : Int)) < (20 : Int)) then
 some
 (V.tup
 [V.agg
 [V.int IntKind.i64 (0 : Int), V.int IntKind.i64 (0 : Int), V.int IntKind.u32 (0 : Int),
 V.int IntKind.u32 (0 : Int), V.int IntKind.i64 (0 : Int), V.int IntKind.i64 (0 : Int),
 V.int IntKind.i64 (0 : Int), V.int IntKind.i64 (0 : Int),
 V.rows (Sh.agg [Sh.int IntKind.i64, Sh.bytes]) [], V.bytes []],
 V.int IntKind.i64 (5 : Int)])
 else
 bif
 decide
 (IntKind.i64.wrap (IntKind.i64.wrap ((gt b (12 : Nat)).fdiv (16 : Int)) * (4 : Int)) >
 (↑b.length : Int)) then
 some
 (V.tup
 [V.agg
 [V.int IntKind.i64 (0 : Int), V.int IntKind.i64 (0 : Int), V.int IntKind.u32 (0 : Int),
 V.int IntKind.u32 (0 : Int), V.int IntKind.i64 (0 : Int), V.int IntKind.i64 (0 : Int),
 V.int IntKind.i64 (0 : Int), V.int IntKind.i64 (0 : Int),
 V.rows (Sh.agg [Sh.int IntKind.i64, Sh.bytes]) [], V.bytes []],
 V.int IntKind.i64 (3 : Int)])
 else
 bif
 andT true
 (Am.inC (20 : Int)
 (IntKind.i64.wrap (IntKind.i64.wrap ((gt b (12 : Nat)).fdiv (16 : Int)) * (4 : Int))).toNat &&
 Am.inC (IntKind.i64.wrap (IntKind.i64.wrap ((gt b (12 : Nat)).fdiv (16 : Int)) * (4 : Int)))
 b.length) then
 bif
 topE
 (cutL b (20 : Nat)
 (IntKind.i64.wrap
 (IntKind.i64.wrap ((gt b (12 : Nat)).fdiv (16 : Int)) * (4 : Int))).toNat) !=
 (0 : Int) then
 some
 (V.tup
 [V.agg
 [V.int IntKind.i64 (0 : Int), V.int IntKind.i64 (0 : Int), V.int IntKind.u32 (0 : Int),
 V.int IntKind.u32 (0 : Int), V.int IntKind.i64 (0 : Int), V.int IntKind.i64 (0 : Int),
 V.int IntKind.i64 (0 : Int), V.int IntKind.i64 (0 : Int),
 V.rows (Sh.agg [Sh.int IntKind.i64, Sh.bytes]) [], V.bytes []],
 V.int IntKind.i64
 (topE
 (cutL b (20 : Nat)
 (IntKind.i64.wrap
 (IntKind.i64.wrap ((gt b (12 : Nat)).fdiv (16 : Int)) * (4 : Int))).toNat))])
 else
 bif
 andT
 (andT (andT true (inB (13 : Int) b.length))
 (Am.inC
 (IntKind.i64.wrap (IntKind.i64.wrap ((gt b (12 : Nat)).fdiv (16 : Int)) * (4 : Int)))
 b.length))
 (decide
 ((cutL b
 (IntKind.i64.wrap
 (IntKind.i64.wrap ((gt b (12 : Nat)).fdiv (16 : Int)) * (4 : Int))).toNat
 b.length).length ≤
 (140737488355328 : Nat))) &&
 true then
 some
 (V.tup
 [V.agg
 [V.int IntKind.i64 (u16 b (0 : Int)).1, V.int IntKind.i64 (u16 b (2 : Int)).1,
 V.int IntKind.u32 (u32 b (4 : Int)).1, V.int IntKind.u32 (u32 b (8 : Int)).1,
 V.int IntKind.i64 (IntKind.i64.wrap (gt b (13 : Nat))),
 V.int IntKind.i64 (u16 b (14 : Int)).1, V.int IntKind.i64 (u16 b (16 : Int)).1,
 V.int IntKind.i64 (u16 b (18 : Int)).1,
 V.rows (Sh.agg [Sh.int IntKind.i64, Sh.bytes])
 (topP
 (cutL b (20 : Nat)
 (IntKind.i64.wrap
 (IntKind.i64.wrap ((gt b (12 : Nat)).fdiv (16 : Int)) * (4 : Int))).toNat)),
 V.bytes
 (cutL b
 (IntKind.i64.wrap
 (IntKind.i64.wrap ((gt b (12 : Nat)).fdiv (16 : Int)) * (4 : Int))).toNat
 b.length)],
 V.int IntKind.i64 (0 : Int)])
 else none
 else none
 else none
 else none := by kernel_rfl

theorem rTcpParse_t (b : List UInt8) : callV Etce af_rTcpParse [.bytes b] =
 bif decide ((↑b.length : Int) < (20 : Int)) then
 some
 (V.tup
 [V.agg
 [V.int IntKind.i64 (0 : Int), V.int IntKind.i64 (0 : Int), V.int IntKind.u32 (0 : Int),
 V.int IntKind.u32 (0 : Int), V.int IntKind.i64 (0 : Int), V.int IntKind.i64 (0 : Int),
 V.int IntKind.i64 (0 : Int), V.int IntKind.i64 (0 : Int),
 V.rows (Sh.agg [Sh.int IntKind.i64, Sh.bytes]) [], V.bytes []],
 V.int IntKind.i64 (3 : Int)])
 else
 bif (gt b (12 : Nat)).tmod (16 : Int) != (0 : Int) then
 bif andT true (inB (12 : Int) b.length) then
 some
 (V.tup
 [V.agg
 [V.int IntKind.i64 (0 : Int), V.int IntKind.i64 (0 : Int), V.int IntKind.u32 (0 : Int),
 V.int IntKind.u32 (0 : Int), V.int IntKind.i64 (0 : Int), V.int IntKind.i64 (0 : Int),
 V.int IntKind.i64 (0 : Int), V.int IntKind.i64 (0 : Int),
 V.rows (Sh.agg [Sh.int IntKind.i64, Sh.bytes]) [], V.bytes []],
 V.int IntKind.i64 (5 : Int)])
 else none
 else
 bif andT (andT true (inB (12 : Int) b.length)) (inB (12 : Int) b.length) then
 bif decide (IntKind.u8.wrap ((gt b (12 : Nat)).tdiv (16 : Int)) < (5 : Int)) then
 some
 (V.tup
 [V.agg
 [V.int IntKind.i64 (0 : Int), V.int IntKind.i64 (0 : Int), V.int IntKind.u32 (0 : Int),
 V.int IntKind.u32 (0 : Int), V.int IntKind.i64 (0 : Int), V.int IntKind.i64 (0 : Int),
 V.int IntKind.i64 (0 : Int), V.int IntKind.i64 (0 : Int),
 V.rows (Sh.agg [Sh.int IntKind.i64, Sh.bytes]) [], V.bytes []],
 V.int IntKind.i64 (5 : Int)])
 else
 bif andT true (inB (12 : Int) b.length) then
 bif
 decide
 (IntKind.i64.wrap
 (IntKind.i64.wrap (IntKind.u8.wrap ((gt b (12 : Nat)).tdiv (16 : Int))) * (4 : Int)) >
 (↑b.length : Int)) then
 some
 (V.tup
 [V.agg
 [V.int IntKind.i64 (0 : Int), V.int IntKind.i64 (0 : Int), V.int IntKind.u32 (0 : Int),
 V.int IntKind.u32 (0 : Int), V.int IntKind.i64 (0 : Int), V.int IntKind.i64 (0 : Int),
 V.int IntKind.i64 (0 : Int), V.int IntKind.i64 (0 : Int),
 V.rows (Sh.agg [Sh.int IntKind.i64, Sh.bytes]) [], V.bytes []],
 V.int IntKind.i64 (3 : Int)])
 else
 bif
 andT true
 (Am.inC (20 : Int)
 (IntKind.i64.wrap
 (IntKind.i64.wrap (IntKind.u8.wrap ((gt b (12 : Nat)).tdiv (16 : Int))) *
 (4 : Int))).toNat &&
 Am.inC
 (IntKind.i64.wrap
 (IntKind.i64.wrap (IntKind.u8.wrap ((gt b (12 : Nat)).tdiv (16 : Int))) * (4 : Int)))
 b.length) then
 bif
 topE
 (cutL b (20 : Nat)
 (IntKind.i64.wrap
 (IntKind.i64.wrap (IntKind.u8.wrap ((gt b (12 : Nat)).tdiv (16 : Int))) *
 (4 : Int))).toNat) !=
 (0 : Int) then
 some
 (V.tup
 [V.agg
 [V.int IntKind.i64 (0 : Int), V.int IntKind.i64 (0 : Int), V.int IntKind.u32 (0 : Int),
 V.int IntKind.u32 (0 : Int), V.int IntKind.i64 (0 : Int), V.int IntKind.i64 (0 : Int),
 V.int IntKind.i64 (0 : Int), V.int IntKind.i64 (0 : Int),
 V.rows (Sh.agg [Sh.int IntKind.i64, Sh.bytes]) [], V.bytes []],
 V.int IntKind.i64
 (topE
 (cutL b (20 : Nat)
 (IntKind.i64.wrap
 (IntKind.i64.wrap (IntKind.u8.wrap ((gt b (12 : Nat)).tdiv (16 : Int))) *
 (4 : Int))).toNat))])
 else
 bif
 andT
 (andT (andT true (inB (13 : Int) b.length))
 (Am.inC
 (IntKind.i64.wrap
 (IntKind.i64.wrap (IntKind.u8.wrap ((gt b (12 : Nat)).tdiv (16 : Int))) * (4 : Int)))
 b.length))
 (((List.replicate (0 : Nat) (0 : UInt8) ++
 cutL b
 (IntKind.i64.wrap
 (IntKind.i64.wrap (IntKind.u8.wrap ((gt b (12 : Nat)).tdiv (16 : Int))) *
 (4 : Int))).toNat
 b.length).length *
 (1 : Nat)).ble
 (140737488355328 : Nat)) &&
 true then
 some
 (V.tup
 [V.agg
 [V.int IntKind.i64 (u16 b (0 : Int)).1, V.int IntKind.i64 (u16 b (2 : Int)).1,
 V.int IntKind.u32 (u32 b (4 : Int)).1, V.int IntKind.u32 (u32 b (8 : Int)).1,
 V.int IntKind.i64 (IntKind.i64.wrap (gt b (13 : Nat))),
 V.int IntKind.i64 (u16 b (14 : Int)).1, V.int IntKind.i64 (u16 b (16 : Int)).1,
 V.int IntKind.i64 (u16 b (18 : Int)).1,
 V.rows (Sh.agg [Sh.int IntKind.i64, Sh.bytes])
 (topP
 (cutL b (20 : Nat)
 (IntKind.i64.wrap
 (IntKind.i64.wrap (IntKind.u8.wrap ((gt b (12 : Nat)).tdiv (16 : Int))) *
 (4 : Int))).toNat)),
 V.bytes
 (List.replicate (0 : Nat) (0 : UInt8) ++
 cutL b
 (IntKind.i64.wrap
 (IntKind.i64.wrap (IntKind.u8.wrap ((gt b (12 : Nat)).tdiv (16 : Int))) *
 (4 : Int))).toNat
 b.length)],
 V.int IntKind.i64 (0 : Int)])
 else none
 else none
 else none
 else none := by kernel_rfl

def tc0 : Tc := ⟨0, 0, 0, 0, 0, 0, 0, 0, [], []⟩
/-- the segment of bytes -/
def tpXX (b : List UInt8) : Tc := if tpE b = 0 then ⟨(u16 b 0).1, (u16 b 2).1, (u32 b 4).1, (u32 b 8).1, gt b 13, (u16 b 14).1, (u16 b 16).1, (u16 b 18).1, topP (tpO b), b.drop (tpH b).toNat⟩ else tc0
theorem and15 (x : UInt8) : bits .and .u8 (x.toNat : Int) 15 = (x.toNat : Int) % 16 := by
  have h : ∀ n : Fin 256, bits .and .u8 (n.val : Int) 15 = (n.val : Int) % 16 := by decide
  exact h ⟨x.toNat, x.toNat_lt⟩
theorem and15g (b : List UInt8) (i : Nat) : bits .and .u8 (gt b i) 15 = gt b i % 16 := and15 _
theorem tpW1 (b : List UInt8) : IntKind.i64.wrap (IntKind.i64.wrap ((gt b 12).fdiv 16) * 4) = tpH b := by
  have h1 := gt_lo b 12
  have h2 := gt_hi b 12
  unfold tpH
  rw [fdv (by omega), w64 (x := gt b 12 / 16) (by omega) (by omega), w64 (by omega) (by omega)]
theorem tcpParse_v (b : List UInt8) (h : b.length ≤ 140737488355328) : callV Etce af_tcpParse [.bytes b] = some (.tup [(tpXX b).v, .int .i64 (tpE b)]) := by
  rw [tcpParse_t]
  simp only [tpW1, and15g]
  have h1 := gt_lo b 12
  have h2 := gt_hi b 12
  have hH : tpH b = gt b 12 / 16 * 4 := rfl
  unfold tpXX
  by_cases c1 : b.length < 20
  · have e : tpE b = 3 := by unfold tpE; rw [if_pos c1]
    rw [e, if_neg (by decide)]
    simp (disch := omega) only [dec_t, dec_f, inB_t, inC_t, andT_t, cond_true, cond_false, Bool.and_true, Bool.true_and, w64, wu32, wu8, nble_t, nblt_t, Bool.not_true, Bool.not_false, Bool.not_not, ieq_t, ieq_f, ine_t, ine_f, true_and, and_true, andT_l]
    rfl
  by_cases c2 : gt b 12 % 16 ≠ 0
  · have e : tpE b = 5 := by unfold tpE; rw [if_neg c1, if_pos (.inl c2)]
    rw [e, if_neg (by decide)]
    simp (disch := omega) only [dec_t, dec_f, inB_t, inC_t, andT_t, cond_true, cond_false, Bool.and_true, Bool.true_and, w64, wu32, wu8, nble_t, nblt_t, Bool.not_true, Bool.not_false, Bool.not_not, ieq_t, ieq_f, ine_t, ine_f, true_and, and_true, andT_l]
    rfl
  by_cases c3 : gt b 12 / 16 < 5
  · have e : tpE b = 5 := by unfold tpE; rw [if_neg c1, if_pos (.inr c3)]
    rw [e, if_neg (by decide)]
    simp (disch := omega) only [dec_t, dec_f, inB_t, inC_t, andT_t, cond_true, cond_false, Bool.and_true, Bool.true_and, w64, wu32, wu8, nble_t, nblt_t, Bool.not_true, Bool.not_false, Bool.not_not, ieq_t, ieq_f, ine_t, ine_f, true_and, and_true, andT_l]
    rfl
  have c4 : ¬ (gt b 12 % 16 ≠ 0 ∨ gt b 12 / 16 < 5) := by omega
  by_cases c5 : gt b 12 / 16 * 4 > b.length
  · have e : tpE b = 3 := by unfold tpE; rw [if_neg c1, if_neg c4, if_pos c5]
    rw [e, if_neg (by decide)]
    simp (disch := omega) only [dec_t, dec_f, inB_t, inC_t, andT_t, cond_true, cond_false, Bool.and_true, Bool.true_and, w64, wu32, wu8, nble_t, nblt_t, Bool.not_true, Bool.not_false, Bool.not_not, ieq_t, ieq_f, ine_t, ine_f, true_and, and_true, andT_l]
    rfl
  have e : tpE b = topE (tpO b) := by unfold tpE; rw [if_neg c1, if_neg c4, if_neg c5]
  have eO : cutL b 20 (tpH b).toNat = tpO b := rfl
  have hl : (cutL b (tpH b).toNat b.length).length ≤ 140737488355328 := by rw [length_cutL]; omega
  rw [e, eO]
  by_cases c6 : topE (tpO b) = 0
  · rw [if_pos c6, c6, cutL_all]
    rw [cutL_all] at hl
    have hf := gt_lo b 13
    have hf' := gt_hi b 13
    rw [w64 (x := gt b 13) (by omega) (by omega)]
    simp (disch := omega) only [dec_t, dec_f, inB_t, inC_t, andT_t, cond_true, cond_false, Bool.and_true, Bool.true_and, w64, wu32, wu8, nble_t, nblt_t, Bool.not_true, Bool.not_false, Bool.not_not, ieq_t, ieq_f, ine_t, ine_f, true_and, and_true, andT_l]
    rfl
  · rw [if_neg c6]
    simp (disch := omega) only [dec_t, dec_f, inB_t, inC_t, andT_t, cond_true, cond_false, Bool.and_true, Bool.true_and, w64, wu32, wu8, nble_t, nblt_t, Bool.not_true, Bool.not_false, Bool.not_not, ieq_t, ieq_f, ine_t, ine_f, true_and, and_true, andT_l]
    rfl
theorem rTcpParse_v (b : List UInt8) (h : b.length ≤ 140737488355328) : callV Etce af_rTcpParse [.bytes b] = some (.tup [(tpXX b).v, .int .i64 (tpE b)]) := by
  rw [rTcpParse_t]
  have h1 := gt_lo b 12
  have h2 := gt_hi b 12
  rw [tmd h1, tdv (a := gt b 12) h1, wu8 (x := gt b 12 / 16) (by omega) (by omega)]
  have eW : IntKind.i64.wrap (IntKind.i64.wrap (gt b 12 / 16) * 4) = tpH b := by
    unfold tpH
    rw [w64 (x := gt b 12 / 16) (by omega) (by omega), w64 (by omega) (by omega)]
  simp only [eW]
  have hH : tpH b = gt b 12 / 16 * 4 := rfl
  unfold tpXX
  by_cases c1 : b.length < 20
  · have e : tpE b = 3 := by unfold tpE; rw [if_pos c1]
    rw [e, if_neg (by decide)]
    simp (disch := omega) only [dec_t, dec_f, inB_t, inC_t, andT_t, cond_true, cond_false, Bool.and_true, Bool.true_and, w64, wu32, wu8, nble_t, nblt_t, Bool.not_true, Bool.not_false, Bool.not_not, ieq_t, ieq_f, ine_t, ine_f, true_and, and_true, andT_l]
    rfl
  by_cases c2 : gt b 12 % 16 ≠ 0
  · have e : tpE b = 5 := by unfold tpE; rw [if_neg c1, if_pos (.inl c2)]
    rw [e, if_neg (by decide)]
    simp (disch := omega) only [dec_t, dec_f, inB_t, inC_t, andT_t, cond_true, cond_false, Bool.and_true, Bool.true_and, w64, wu32, wu8, nble_t, nblt_t, Bool.not_true, Bool.not_false, Bool.not_not, ieq_t, ieq_f, ine_t, ine_f, true_and, and_true, andT_l]
    rfl
  by_cases c3 : gt b 12 / 16 < 5
  · have e : tpE b = 5 := by unfold tpE; rw [if_neg c1, if_pos (.inr c3)]
    rw [e, if_neg (by decide)]
    simp (disch := omega) only [dec_t, dec_f, inB_t, inC_t, andT_t, cond_true, cond_false, Bool.and_true, Bool.true_and, w64, wu32, wu8, nble_t, nblt_t, Bool.not_true, Bool.not_false, Bool.not_not, ieq_t, ieq_f, ine_t, ine_f, true_and, and_true, andT_l]
    rfl
  have c4 : ¬ (gt b 12 % 16 ≠ 0 ∨ gt b 12 / 16 < 5) := by omega
  by_cases c5 : gt b 12 / 16 * 4 > b.length
  · have e : tpE b = 3 := by unfold tpE; rw [if_neg c1, if_neg c4, if_pos c5]
    rw [e, if_neg (by decide)]
    simp (disch := omega) only [dec_t, dec_f, inB_t, inC_t, andT_t, cond_true, cond_false, Bool.and_true, Bool.true_and, w64, wu32, wu8, nble_t, nblt_t, Bool.not_true, Bool.not_false, Bool.not_not, ieq_t, ieq_f, ine_t, ine_f, true_and, and_true, andT_l]
    rfl
  have e : tpE b = topE (tpO b) := by unfold tpE; rw [if_neg c1, if_neg c4, if_neg c5]
  have eO : cutL b 20 (tpH b).toNat = tpO b := rfl
  have hl : (cutL b (tpH b).toNat b.length).length ≤ 140737488355328 := by rw [length_cutL]; omega
  rw [e, eO]
  by_cases c6 : topE (tpO b) = 0
  · rw [if_pos c6, c6, cutL_all]
    rw [cutL_all] at hl
    have hf := gt_lo b 13
    have hf' := gt_hi b 13
    rw [w64 (x := gt b 13) (by omega) (by omega), List.replicate_zero, List.nil_append]
    simp (disch := omega) only [dec_t, dec_f, inB_t, inC_t, andT_t, cond_true, cond_false, Bool.and_true, Bool.true_and, w64, wu32, wu8, nble_t, nblt_t, Bool.not_true, Bool.not_false, Bool.not_not, ieq_t, ieq_f, ine_t, ine_f, true_and, and_true, andT_l]
    rfl
  · rw [if_neg c6]
    simp (disch := omega) only [dec_t, dec_f, inB_t, inC_t, andT_t, cond_true, cond_false, Bool.and_true, Bool.true_and, w64, wu32, wu8, nble_t, nblt_t, Bool.not_true, Bool.not_false, Bool.not_not, ieq_t, ieq_f, ine_t, ine_f, true_and, and_true, andT_l]
    rfl
def cTcpPar : List V → Option (V × Bool)
  | [.bytes b] => some (.tup [(tpXX b).v, .int .i64 (tpE b)], decide (b.length ≤ 140737488355328))
  | _ => none
theorem tcpParse_con : ∀ vs v, cTcpPar vs = some (v, true) → SpecV Tryz.prog 106 vs v := by
  intro vs v h; unfold cTcpPar at h; split at h
  · rename_i b
    injection h with h; injection h with h hb; subst h
    exact callV_ok Etce_ok af_tcpParse_ok (tcpParse_v b (of_decide_eq_true hb))
  · cases h
theorem rTcpParse_con : ∀ vs v, cTcpPar vs = some (v, true) → SpecV Tryz.prog 12 vs v := by
  intro vs v h; unfold cTcpPar at h; split at h
  · rename_i b
    injection h with h; injection h with h hb; subst h
    exact callV_ok Etce_ok af_rTcpParse_ok (rTcpParse_v b (of_decide_eq_true hb))
  · cases h
end Go.Proofs.YtkfokahghlnjmaaGreatDoor

namespace Go.Proofs.YtkfokahghlnjmaaGreatDoor
open Go Go.Am Go.RowKit Go.Mix Go.Bas
set_option maxRecDepth 100000
noncomputable def af_tcFine : AF := afOf Tryz.prog Tryz.f107 []
theorem af_tcFine_ok : AllOk Tryz.prog 107 af_tcFine := .flat Tryz.func107 (by kernel_rfl) (by kernel_rfl) (by kernel_rfl) (by kernel_rfl) (by kernel_rfl)
noncomputable def GEtcf : List (Nat × Con) := [(110, .val [.barr 16, .barr 16, .int .i64, .bytes] cFine)]

theorem GEtcf_ok : GOk Tryz.prog GEtcf := .cons (enters_of Tryz.func110 (by kernel_rfl) rfl) Fine_con <| .nil

noncomputable def IEtcf : List (Nat × AF) := []

theorem IEtcf_ok : IOk Tryz.prog IEtcf := .nil

noncomputable def CEtcf : List (Nat × (List Nat × (S → Option (Bool × Tr)))) := []
theorem CEtcf_ok : COk Tryz.prog CEtcf := .nil
noncomputable def XEtcf : List (Nat × (List Sh × (List V → PT))) := []
theorem XEtcf_ok : XOk Tryz.prog XEtcf := .nil
noncomputable def Etcf : Env := ⟨Tryz.prog, GEtcf, IEtcf, CEtcf, XEtcf⟩
theorem Etcf_ok : EnvOk Etcf := ⟨by kernel_rfl, GEtcf_ok, IEtcf_ok, CEtcf_ok, XEtcf_ok⟩
theorem tcFine_v (s d l : List UInt8) (h : l.length ≤ 140737488355327) : callV Etcf af_tcFine [.barr 16 s, .barr 16 d, .bytes l] = some (.bool (both s d 6 l == 65535)) := by
  have e : callV Etcf af_tcFine [.barr 16 s, .barr 16 d, .bytes l] = bif andT true (decide (l.length ≤ 140737488355327)) then some (.bool (both s d 6 l == 65535)) else none := by kernel_rfl
  rw [e]
  simp (disch := omega) only [dec_t, dec_f, inB_t, inC_t, andT_t, cond_true, cond_false, Bool.and_true, Bool.true_and, w64, wu32, wu8, nble_t, nblt_t, Bool.not_true, Bool.not_false, Bool.not_not, ieq_t, ieq_f, ine_t, ine_f, true_and, and_true, andT_l]
def cTcFine : List V → Option (V × Bool)
  | [.barr 16 s, .barr 16 d, .bytes l] => some (.bool (both s d 6 l == 65535), decide (l.length ≤ 140737488355327))
  | _ => none
theorem tcFine_con : ∀ vs v, cTcFine vs = some (v, true) → SpecV Tryz.prog 107 vs v := by
  intro vs v h; unfold cTcFine at h; split at h
  · rename_i s d l
    injection h with h; injection h with h hb; subst h
    exact callV_ok Etcf_ok af_tcFine_ok (tcFine_v s d l (of_decide_eq_true hb))
  · cases h
end Go.Proofs.YtkfokahghlnjmaaGreatDoor
