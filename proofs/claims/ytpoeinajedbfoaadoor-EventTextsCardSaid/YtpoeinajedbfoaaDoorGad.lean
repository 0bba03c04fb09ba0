/- Part Gad of the proof: laws used by the law of this claim. -/
import Derived.Test.YtpoeinajedbfoaaDoorGtx
import Derived.Test.YtpoeinajedbfoaaDoorGz
set_option linter.all false
namespace Go.Proofs.YtpoeinajedbfoaaDoor
open Go Go.Am Go.RowKit Go.Mix Go.Bas
set_option maxRecDepth 100000
/-! ### the document's -/
end Go.Proofs.YtpoeinajedbfoaaDoor

namespace Go.Proofs.YtpoeinajedbfoaaDoor
open Go Go.Am Go.RowKit Go.Mix Go.Bas
set_option maxRecDepth 100000
noncomputable def GEadb0 : List (Nat × Con) := []
theorem GEadb0_ok : GOk Tryd.prog GEadb0 := .nil
noncomputable def IEadb0 : List (Nat × AF) := []
theorem IEadb0_ok : IOk Tryd.prog IEadb0 := .nil
noncomputable def CEadb0 : List (Nat × (List Nat × (S → Option (Bool × Tr)))) := []
theorem CEadb0_ok : COk Tryd.prog CEadb0 := .nil
noncomputable def XEadb0 : List (Nat × (List Sh × (List V → PT))) := []
theorem XEadb0_ok : XOk Tryd.prog XEadb0 := .nil
noncomputable def Eadb0 : Env := ⟨Tryd.prog, GEadb0, IEadb0, CEadb0, XEadb0⟩
theorem Eadb0_ok : EnvOk Eadb0 := ⟨by kernel_rfl, GEadb0_ok, IEadb0_ok, CEadb0_ok, XEadb0_ok⟩
noncomputable def af_adWords : AF := afOf Tryd.prog Tryd.f84 [.unr 9]
theorem af_adWords_ok : AllOk Tryd.prog 84 af_adWords := .flat Tryd.func84 (by kernel_rfl) (by kernel_rfl) (by kernel_rfl) (by kernel_rfl) (by kernel_rfl)
noncomputable def af_rAdWords : AF := afOf Tryd.prog Tryd.f70 [.unr 9]
theorem af_rAdWords_ok : AllOk Tryd.prog 70 af_rAdWords := .flat Tryd.func70 (by kernel_rfl) (by kernel_rfl) (by kernel_rfl) (by kernel_rfl) (by kernel_rfl)
theorem adWords_t (a : List UInt8) : callV Eadb0 af_adWords [.barr 16 a] =
 some
 (V.arr (Sh.int IntKind.i64) (8 : Nat)
 (((((((((List.replicate (8 : Nat) (V.int IntKind.i64 (0 : Int))).set (0 : Nat)
 (V.int IntKind.i64
 (bits BinOp.or IntKind.i64
 (IntKind.i64.wrap (IntKind.i64.wrap (gt a (0 : Nat)) * (256 : Int)))
 (IntKind.i64.wrap (gt a (1 : Nat)))))).set
 (1 : Nat)
 (V.int IntKind.i64
 (bits BinOp.or IntKind.i64
 (IntKind.i64.wrap (IntKind.i64.wrap (gt a (2 : Nat)) * (256 : Int)))
 (IntKind.i64.wrap (gt a (3 : Nat)))))).set
 (2 : Nat)
 (V.int IntKind.i64
 (bits BinOp.or IntKind.i64
 (IntKind.i64.wrap (IntKind.i64.wrap (gt a (4 : Nat)) * (256 : Int)))
 (IntKind.i64.wrap (gt a (5 : Nat)))))).set
 (3 : Nat)
 (V.int IntKind.i64
 (bits BinOp.or IntKind.i64
 (IntKind.i64.wrap (IntKind.i64.wrap (gt a (6 : Nat)) * (256 : Int)))
 (IntKind.i64.wrap (gt a (7 : Nat)))))).set
 (4 : Nat)
 (V.int IntKind.i64
 (bits BinOp.or IntKind.i64 (IntKind.i64.wrap (IntKind.i64.wrap (gt a (8 : Nat)) * (256 : Int)))
 (IntKind.i64.wrap (gt a (9 : Nat)))))).set
 (5 : Nat)
 (V.int IntKind.i64
 (bits BinOp.or IntKind.i64 (IntKind.i64.wrap (IntKind.i64.wrap (gt a (10 : Nat)) * (256 : Int)))
 (IntKind.i64.wrap (gt a (11 : Nat)))))).set
 (6 : Nat)
 (V.int IntKind.i64
 (bits BinOp.or IntKind.i64 (IntKind.i64.wrap (IntKind.i64.wrap (gt a (12 : Nat)) * (256 : Int)))
 (IntKind.i64.wrap (gt a (13 : Nat)))))).set
 (7 : Nat)
 (V.int IntKind.i64
 (bits BinOp.or IntKind.i64 (IntKind.i64.wrap (IntKind.i64.wrap (gt a (14 : Nat)) * (256 : Int)))
 (IntKind.i64.wrap (gt a (15 : Nat))))))) := by kernel_rfl

theorem rAdWords_t (a : List UInt8) : callV Eadb0 af_rAdWords [.barr 16 a] =
 some
 (V.arr (Sh.int IntKind.i64) (8 : Nat)
 (((((((((List.replicate (8 : Nat) (V.int IntKind.i64 (0 : Int))).set (0 : Nat)
 (V.int IntKind.i64
 (IntKind.i64.wrap
 (IntKind.i64.wrap (IntKind.i64.wrap (gt a (0 : Nat)) * (256 : Int)) +
 IntKind.i64.wrap (gt a (1 : Nat)))))).set
 (1 : Nat)
 (V.int IntKind.i64
 (IntKind.i64.wrap
 (IntKind.i64.wrap (IntKind.i64.wrap (gt a (2 : Nat)) * (256 : Int)) +
 IntKind.i64.wrap (gt a (3 : Nat)))))).set
 (2 : Nat)
 (V.int IntKind.i64
 (IntKind.i64.wrap
 (IntKind.i64.wrap (IntKind.i64.wrap (gt a (4 : Nat)) * (256 : Int)) +
 IntKind.i64.wrap (gt a (5 : Nat)))))).set
 (3 : Nat)
 (V.int IntKind.i64
 (IntKind.i64.wrap
 (IntKind.i64.wrap (IntKind.i64.wrap (gt a (6 : Nat)) * (256 : Int)) +
 IntKind.i64.wrap (gt a (7 : Nat)))))).set
 (4 : Nat)
 (V.int IntKind.i64
 (IntKind.i64.wrap
 (IntKind.i64.wrap (IntKind.i64.wrap (gt a (8 : Nat)) * (256 : Int)) +
 IntKind.i64.wrap (gt a (9 : Nat)))))).set
 (5 : Nat)
 (V.int IntKind.i64
 (IntKind.i64.wrap
 (IntKind.i64.wrap (IntKind.i64.wrap (gt a (10 : Nat)) * (256 : Int)) +
 IntKind.i64.wrap (gt a (11 : Nat)))))).set
 (6 : Nat)
 (V.int IntKind.i64
 (IntKind.i64.wrap
 (IntKind.i64.wrap (IntKind.i64.wrap (gt a (12 : Nat)) * (256 : Int)) +
 IntKind.i64.wrap (gt a (13 : Nat)))))).set
 (7 : Nat)
 (V.int IntKind.i64
 (IntKind.i64.wrap
 (IntKind.i64.wrap (IntKind.i64.wrap (gt a (14 : Nat)) * (256 : Int)) +
 IntKind.i64.wrap (gt a (15 : Nat))))))) := by kernel_rfl

noncomputable def af_adDigits : AF := afOf Tryd.prog Tryd.f105 [.unr 5]
theorem af_adDigits_ok : AllOk Tryd.prog 105 af_adDigits := .flat Tryd.func105 (by kernel_rfl) (by kernel_rfl) (by kernel_rfl) (by kernel_rfl) (by kernel_rfl)
theorem adDigits_t (n : Int) : callV Eadb0 af_adDigits [.int .i64 n] =
 bif
 andT
 (andT true
 (Am.inC (bits BinOp.and IntKind.i64 n (15 : Int))
 (IntKind.i64.wrap (bits BinOp.and IntKind.i64 n (15 : Int) + (1 : Int))).toNat &&
 Am.inC (IntKind.i64.wrap (bits BinOp.and IntKind.i64 n (15 : Int) + (1 : Int))) (16 : Nat)))
 (((cutL
 [(48 : UInt8), (49 : UInt8), (50 : UInt8), (51 : UInt8), (52 : UInt8), (53 : UInt8), (54 : UInt8),
 (55 : UInt8), (56 : UInt8), (57 : UInt8), (97 : UInt8), (98 : UInt8), (99 : UInt8), (100 : UInt8),
 (101 : UInt8), (102 : UInt8)]
 (bits BinOp.and IntKind.i64 n (15 : Int)).toNat
 (IntKind.i64.wrap (bits BinOp.and IntKind.i64 n (15 : Int) + (1 : Int))).toNat).length +
 (0 : Nat)).ble
 (9223372036854775807 : Nat)) then
 bif n.fdiv (16 : Int) == (0 : Int) then
 some
 (V.str
 (cutL
 [(48 : UInt8), (49 : UInt8), (50 : UInt8), (51 : UInt8), (52 : UInt8), (53 : UInt8), (54 : UInt8),
 (55 : UInt8), (56 : UInt8), (57 : UInt8), (97 : UInt8), (98 : UInt8), (99 : UInt8), (100 : UInt8),
 (101 : UInt8), (102 : UInt8)]
 (bits BinOp.and IntKind.i64 n (15 : Int)).toNat
 (IntKind.i64.wrap (bits BinOp.and IntKind.i64 n (15 : Int) + (1 : Int))).toNat ++
 []))
 else
 bif
 andT
 (andT true
 (Am.inC (bits BinOp.and IntKind.i64 (n.fdiv (16 : Int)) (15 : Int))
 (IntKind.i64.wrap (bits BinOp.and IntKind.i64 (n.fdiv (16 : Int)) (15 : Int) + (1 : Int))).toNat &&
 Am.inC (IntKind.i64.wrap (bits BinOp.and IntKind.i64 (n.fdiv (16 : Int)) (15 : Int) + (1 : Int)))
 (16 : Nat)))
 (((cutL
 [(48 : UInt8), (49 : UInt8), (50 : UInt8), (51 : UInt8), (52 : UInt8), (53 : UInt8), (54 : UInt8),
 (55 : UInt8), (56 : UInt8), (57 : UInt8), (97 : UInt8), (98 : UInt8), (99 : UInt8),
 (100 : UInt8), (101 : UInt8), (102 : UInt8)]
 (bits BinOp.and IntKind.i64 (n.fdiv (16 : Int)) (15 : Int)).toNat
 (IntKind.i64.wrap
 (bits BinOp.and IntKind.i64 (n.fdiv (16 : Int)) (15 : Int) + (1 : Int))).toNat).length +
 (cutL
 [(48 : UInt8), (49 : UInt8), (50 : UInt8), (51 : UInt8), (52 : UInt8), (53 : UInt8),
 (54 : UInt8), (55 : UInt8), (56 : UInt8), (57 : UInt8), (97 : UInt8), (98 : UInt8),
 (99 : UInt8), (100 : UInt8), (101 : UInt8), (102 : UInt8)]
 (bits BinOp.and IntKind.i64 n (15 : Int)).toNat
 (IntKind.i64.wrap (bits BinOp.and IntKind.i64 n (15 : Int) + (1 : Int))).toNat ++
 []).length).ble
 (9223372036854775807 : Nat)) then
 bif (n.fdiv (16 : Int)).fdiv (16 : Int) == (0 : Int) then
 some
 (V.str
 (cutL
 [(48 : UInt8), (49 : UInt8), (50 : UInt8), (51 : UInt8), (52 : UInt8), (53 : UInt8), (54 : UInt8),
 (55 : UInt8), (56 : UInt8), (57 : UInt8), (97 : UInt8), (98 : UInt8), (99 : UInt8), (100 : UInt8),
 (101 : UInt8), (102 : UInt8)]
 (bits BinOp.and IntKind.i64 (n.fdiv (16 : Int)) (15 : Int)).toNat
 (IntKind.i64.wrap (bits BinOp.and IntKind.i64 (n.fdiv (16 : Int)) (15 : Int) + (1 : Int))).toNat ++
 (cutL
 [(48 : UInt8), (49 : UInt8), (50 : UInt8), (51 : UInt8), (52 : UInt8), (53 : UInt8), (54 : UInt8),
 (55 : UInt8), (56 : UInt8), (57 : UInt8), (97 : UInt8), (98 : UInt8), (99 : UInt8), (100 : UInt8),
 (101 : UInt8), (102 : UInt8)]
 (bits BinOp.and IntKind.i64 n (15 : Int)).toNat
 (IntKind.i64.wrap (bits BinOp.and IntKind.i64 n (15 : Int) + (1 : Int))).toNat ++
 [])))
 else
 bif
 andT
 (andT true
 (Am.inC (bits BinOp.and IntKind.i64 ((n.fdiv (16 : Int)).fdiv (16 : Int)) (15 : Int))
 (IntKind.i64.wrap
 (bits BinOp.and IntKind.i64 ((n.fdiv (16 : Int)).fdiv (16 : Int)) (15 : Int) +
 (1 : Int))).toNat &&
 Am.inC
 (IntKind.i64.wrap
 (bits BinOp.and IntKind.i64 ((n.fdiv (16 : Int)).fdiv (16 : Int)) (15 : Int) + (1 : Int)))
 (16 : Nat)))
 (((cutL
 [(48 : UInt8), (49 : UInt8), (50 : UInt8), (51 : UInt8), (52 : UInt8), (53 : UInt8),
 (54 : UInt8), (55 : UInt8), (56 : UInt8), (57 : UInt8), (97 : UInt8), (98 : UInt8),
 (99 : UInt8), (100 : UInt8), (101 : UInt8), (102 : UInt8)]
 (bits BinOp.and IntKind.i64 ((n.fdiv (16 : Int)).fdiv (16 : Int)) (15 : Int)).toNat
 (IntKind.i64.wrap
 (bits BinOp.and IntKind.i64 ((n.fdiv (16 : Int)).fdiv (16 : Int)) (15 : Int) +
 (1 : Int))).toNat).length +
 (cutL
 [(48 : UInt8), (49 : UInt8), (50 : UInt8), (51 : UInt8), (52 : UInt8), (53 : UInt8),
 (54 : UInt8), (55 : UInt8), (56 : UInt8), (57 : UInt8), (97 : UInt8), (98 : UInt8),
 (99 : UInt8), (100 : UInt8), (101 : UInt8), (102 : UInt8)]
 (bits BinOp.and IntKind.i64 (n.fdiv (16 : Int)) (15 : Int)).toNat
 (IntKind.i64.wrap
 (bits BinOp.and IntKind.i64 (n.fdiv (16 : Int)) (15 : Int) + (1 : Int))).toNat ++
 (cutL
 [(48 : UInt8), (49 : UInt8), (50 : UInt8), (51 : UInt8), (52 : UInt8), (53 : UInt8),
 (54 : UInt8), (55 : UInt8), (56 : UInt8), (57 : UInt8), (97 : UInt8), (98 : UInt8),
 (99 : UInt8), (100 : UInt8), (101 : UInt8), (102 : UInt8)]
 (bits BinOp.and IntKind.i64 n (15 : Int)).toNat
 (IntKind.i64.wrap (bits BinOp.and IntKind.i64 n (15 : Int) + (1 : Int))).toNat ++
 [])).length).ble
 (9223372036854775807 : Nat)) then
 bif ((n.fdiv (16 : Int)).fdiv (16 : Int)).fdiv (16 : Int) == (0 : Int) then
 some
 (V.str
 (cutL
 [(48 : UInt8), (49 : UInt8), (50 : UInt8), (51 : UInt8), (52 : UInt8), (53 : UInt8), (54 : UInt8),
 (55 : UInt8), (56 : UInt8), (57 : UInt8), (97 : UInt8), (98 : UInt8), (99 : UInt8),
 (100 : UInt8), (101 : UInt8), (102 : UInt8)]
 (bits BinOp.and IntKind.i64 ((n.fdiv (16 : Int)).fdiv (16 : Int)) (15 : Int)).toNat
 (IntKind.i64.wrap
 (bits BinOp.and IntKind.i64 ((n.fdiv (16 : Int)).fdiv (16 : Int)) (15 : Int) +
 (1 : Int))).toNat ++
 (cutL
 [(48 : UInt8), (49 : UInt8), (50 : UInt8), (51 : UInt8), (52 : UInt8), (53 : UInt8),
 (54 : UInt8), (55 : UInt8), (56 : UInt8), (57 : UInt8), (97 : UInt8), (98 : UInt8),
 (99 : UInt8), (100 : UInt8), (101 : UInt8), (102 : UInt8)]
 (bits BinOp.and IntKind.i64 (n.fdiv (16 : Int)) (15 : Int)).toNat
 (IntKind.i64.wrap
 (bits BinOp.and IntKind.i64 (n.fdiv (16 : Int)) (15 : Int) + (1 : Int))).toNat ++
 (cutL
 [(48 : UInt8), (49 : UInt8), (50 : UInt8), (51 : UInt8), (52 : UInt8), (53 : UInt8),
 (54 : UInt8), (55 : UInt8), (56 : UInt8), (57 : UInt8), (97 : UInt8), (98 : UInt8),
 (99 : UInt8), (100 : UInt8), (101 : UInt8), (102 : UInt8)]
 (bits BinOp.and IntKind.i64 n (15 : Int)).toNat
 (IntKind.i64.wrap (bits BinOp.and IntKind.i64 n (15 : Int) + (1 : Int))).toNat ++
 []))))
 else
 bif
 andT
 (andT true
 (Am.inC
 (bits BinOp.and IntKind.i64 (((n.fdiv (16 : Int)).fdiv (16 : Int)).fdiv (16 : Int))
 (15 : Int))
 (IntKind.i64.wrap
 (bits BinOp.and IntKind.i64 (((n.fdiv (16 : Int)).fdiv (16 : Int)).fdiv (16 : Int))
 (15 : Int) +
 (1 : Int))).toNat &&
 Am.inC
 (IntKind.i64.wrap
 (bits BinOp.and IntKind.i64 (((n.fdiv (16 : Int)).fdiv (16 : Int)).fdiv (16 : Int))
 (15 : Int) +
 (1 : Int)))
 (16 : Nat)))
 (((cutL
 [(48 : UInt8), (49 : UInt8), (50 : UInt8), (51 : UInt8), (52 : UInt8), (53 : UInt8),
 (54 : UInt8), (55 : UInt8), (56 : UInt8), (57 : UInt8), (97 : UInt8), (98 : UInt8),
 (99 : UInt8), (100 : UInt8), (101 : UInt8), (102 : UInt8)]
 (bits BinOp.and IntKind.i64 (((n.fdiv (16 : Int)).fdiv (16 : Int)).fdiv (16 : Int))
 (15 : Int)).toNat
 (IntKind.i64.wrap
 (bits BinOp.and IntKind.i64 (((n.fdiv (16 : Int)).fdiv (16 : Int)).fdiv (16 : Int))
 (15 : Int) +
 (1 : Int))).toNat).length +
 (cutL
 [(48 : UInt8), (49 : UInt8), (50 : UInt8), (51 : UInt8), (52 : UInt8), (53 : UInt8),
 (54 : UInt8), (55 : UInt8), (56 : UInt8), (57 : UInt8), (97 : UInt8), (98 : UInt8),
 (99 : UInt8), (100 : UInt8), (101 : UInt8), (102 : UInt8)]
 (bits BinOp.and IntKind.i64 ((n.fdiv (16 : Int)).fdiv (16 : Int)) (15 : Int)).toNat
 (IntKind.i64.wrap
 (bits BinOp.and IntKind.i64 ((n.fdiv (16 : Int)).fdiv (16 : Int)) (15 : Int) +
 (1 : Int))).toNat ++
 (cutL
 [(48 : UInt8), (49 : UInt8), (50 : UInt8), (51 : UInt8), (52 : UInt8), (53 : UInt8),
 (54 : UInt8), (55 : UInt8), (56 : UInt8), (57 : UInt8), (97 : UInt8), (98 : UInt8),
 (99 : UInt8), (100 : UInt8), (101 : UInt8), (102 : UInt8)]
 (bits BinOp.and IntKind.i64 (n.fdiv (16 : Int)) (15 : Int)).toNat
 (IntKind.i64.wrap
 (bits BinOp.and IntKind.i64 (n.fdiv (16 : Int)) (15 : Int) + (1 : Int))).toNat ++
 (cutL
 [(48 : UInt8), (49 : UInt8), (50 : UInt8), (51 : UInt8), (52 : UInt8), (53 : UInt8),
 (54 : UInt8), (55 : UInt8), (56 : UInt8), (57 : UInt8), (97 : UInt8),
 (98 : UInt8), (99 : UInt8), (100 : UInt8), (101 : UInt8), (102 : UInt8)]
 (bits BinOp.and IntKind.i64 n (15 : Int)).toNat
 (IntKind.i64.wrap (bits BinOp.and IntKind.i64 n (15 : Int) + (1 : Int))).toNat ++
 []))).length).ble
 (9223372036854775807 : Nat)) then
 bif (((n.fdiv (16 : Int)).fdiv (16 : Int)).fdiv (16 : Int)).fdiv (16 : Int) == (0 : Int) then
 some
 (V.str
 (cutL
 [(48 : UInt8), (49 : UInt8), (50 : UInt8), (51 : UInt8), (52 : UInt8), (53 : UInt8),
 (54 : UInt8), (55 : UInt8), (56 : UInt8), (57 : UInt8), (97 : UInt8), (98 : UInt8),
 (99 : UInt8), (100 : UInt8), (101 : UInt8), (102 : UInt8)]
 (bits BinOp.and IntKind.i64 (((n.fdiv (16 : Int)).fdiv (16 : Int)).fdiv (16 : Int))
 (15 : Int)).toNat
 (IntKind.i64.wrap
 (bits BinOp.and IntKind.i64 (((n.fdiv (16 : Int)).fdiv (16 : Int)).fdiv (16 : Int))
 (15 : Int) +
 (1 : Int))).toNat ++
 (cutL
 [(48 : UInt8), (49 : UInt8), (50 : UInt8), (51 : UInt8), (52 : UInt8), (53 : UInt8),
 (54 : UInt8), (55 : UInt8), (56 : UInt8), (57 : UInt8), (97 : UInt8), (98 : UInt8),
 (99 : UInt8), (100 : UInt8), (101 : UInt8), (102 : UInt8)]
 (bits BinOp.and IntKind.i64 ((n.fdiv (16 : Int)).fdiv (16 : Int)) (15 : Int)).toNat
 (IntKind.i64.wrap
 (bits BinOp.and IntKind.i64 ((n.fdiv (16 : Int)).fdiv (16 : Int)) (15 : Int) +
 (1 : Int))).toNat ++
 (cutL
 [(48 : UInt8), (49 : UInt8), (50 : UInt8), (51 : UInt8), (52 : UInt8), (53 : UInt8),
 (54 : UInt8), (55 : UInt8), (56 : UInt8), (57 : UInt8), (97 : UInt8), (98 : UInt8),
 (99 : UInt8), (100 : UInt8), (101 : UInt8), (102 : UInt8)]
 (bits BinOp.and IntKind.i64 (n.fdiv (16 : Int)) (15 : Int)).toNat
 (IntKind.i64.wrap
 (bits BinOp.and IntKind.i64 (n.fdiv (16 : Int)) (15 : Int) + (1 : Int))).toNat ++
 (cutL
 [(48 : UInt8), (49 : UInt8), (50 : UInt8), (51 : UInt8), (52 : UInt8), (53 : UInt8),
 (54 : UInt8), (55 : UInt8), (56 : UInt8), (57 : UInt8), (97 : UInt8), (98 : UInt8),
 (99 : UInt8), (100 : UInt8), (101 : UInt8), (102 : UInt8)]
 (bits BinOp.and IntKind.i64 n (15 : Int)).toNat
 (IntKind.i64.wrap (bits BinOp.and IntKind.i64 n (15 : Int) + (1 : Int))).toNat ++
 [])))))
 else
 bif
 andT
 (andT true
 (Am.inC
 (bits BinOp.and IntKind.i64
 ((((n.fdiv (16 : Int)).fdiv (16 : Int)).fdiv (16 : Int)).fdiv (16 : Int)) (15 : Int))
 (IntKind.i64.wrap
 (bits BinOp.and IntKind.i64
 ((((n.fdiv (16 : Int)).fdiv (16 : Int)).fdiv (16 : Int)).fdiv (16 : Int))
 (15 : Int) +
 (1 : Int))).toNat &&
 Am.inC
 (IntKind.i64.wrap
 (bits BinOp.and IntKind.i64
 ((((n.fdiv (16 : Int)).fdiv (16 : Int)).fdiv (16 : Int)).fdiv (16 : Int))
 (15 : Int) +
 (1 : Int)))
 (16 : Nat)))
 (((cutL
 [(48 : UInt8), (49 : UInt8), (50 : UInt8), (51 : UInt8), (52 : UInt8), (53 : UInt8),
 (54 : UInt8), (55 : UInt8), (56 : UInt8), (57 : UInt8), (97 : UInt8), (98 : UInt8),
 (99 : UInt8), (100 : UInt8), (101 : UInt8), (102 : UInt8)]
 (bits BinOp.and IntKind.i64
 ((((n.fdiv (16 : Int)).fdiv (16 : Int)).fdiv (16 : Int)).fdiv (16 : Int))
 (15 : Int)).toNat
 (IntKind.i64.wrap
 (bits BinOp.and IntKind.i64
 ((((n.fdiv (16 : Int)).fdiv (16 : Int)).fdiv (16 : Int)).fdiv (16 : Int))
 (15 : Int) +
 (1 : Int))).toNat).length +
 (cutL
 [(48 : UInt8), (49 : UInt8), (50 : UInt8), (51 : UInt8), (52 : UInt8), (53 : UInt8),
 (54 : UInt8), (55 : UInt8), (56 : UInt8), (57 : UInt8), (97 : UInt8),
 (98 : UInt8), (99 : UInt8), (100 : UInt8), (101 : UInt8), (102 : UInt8)]
 (bits BinOp.and IntKind.i64 (((n.fdiv (16 : Int)).fdiv (16 : Int)).fdiv (16 : Int))
 (15 : Int)).toNat
 (IntKind.i64.wrap
 (bits BinOp.and IntKind.i64
 (((n.fdiv (16 : Int)).fdiv (16 : Int)).fdiv (16 : Int)) (15 : Int) +
 (1 : Int))).toNat ++
 (cutL
 [(48 : UInt8), (49 : UInt8), (50 : UInt8), (51 : UInt8), (52 : UInt8),
 (53 : UInt8), (54 : UInt8), (55 : UInt8), (56 : UInt8), (57 : UInt8),
 (97 : UInt8), (98 : UInt8), (99 : UInt8), (100 : UInt8), (101 : UInt8),
 (102 : UInt8)]
 (bits BinOp.and IntKind.i64 ((n.fdiv (16 : Int)).fdiv (16 : Int))
 (15 : Int)).toNat
 (IntKind.i64.wrap
 (bits BinOp.and IntKind.i64 ((n.fdiv (16 : Int)).fdiv (16 : Int)) (15 : Int) +
 (1 : Int))).toNat ++
 (cutL
 [(48 : UInt8), (49 : UInt8), (50 : UInt8), (51 : UInt8), (52 : UInt8),
 (53 : UInt8), (54 : UInt8), (55 : UInt8), (56 : UInt8), (57 : UInt8),
 (97 : UInt8), (98 : UInt8), (99 : UInt8), (100 : UInt8), (101 : UInt8),
 (102 : UInt8)]
 (bits BinOp.and IntKind.i64 (n.fdiv (16 : Int)) (15 : Int)).toNat
 (IntKind.i64.wrap
 (bits BinOp.and IntKind.i64 (n.fdiv (16 : Int)) (15 : Int) +
 (1 : Int))).toNat ++
 (cutL
 [(48 : UInt8), (49 : UInt8), (50 : UInt8), (51 : UInt8), (52 : UInt8),
 (53 : UInt8), (54 : UInt8), (55 : UInt8), (56 : UInt8), (57 : UInt8),
 (97 : UInt8), (98 : UInt8), (99 : UInt8), (100 : UInt8), (101 : UInt8),
 (102 : UInt8)]
 (bits BinOp.and IntKind.i64 n (15 : Int)).toNat
 (IntKind.i64.wrap
 (bits BinOp.and IntKind.i64 n (15 : Int) + (1 : Int))).toNat ++
 [])))).length).ble
 (9223372036854775807 : Nat)) then
 bif
 ((((n.fdiv (16 : Int)).fdiv (16 : Int)).fdiv (16 : Int)).fdiv (16 : Int)).fdiv (16 : Int) ==
 (0 : Int) then
 some
 (V.str
 (cutL
 [(48 : UInt8), (49 : UInt8), (50 : UInt8), (51 : UInt8), (52 : UInt8), (53 : UInt8),
 (54 : UInt8), (55 : UInt8), (56 : UInt8), (57 : UInt8), (97 : UInt8), (98 : UInt8),
 (99 : UInt8), (100 : UInt8), (101 : UInt8), (102 : UInt8)]
 (bits BinOp.and IntKind.i64
 ((((n.fdiv (16 : Int)).fdiv (16 : Int)).fdiv (16 : Int)).fdiv (16 : Int))
 (15 : Int)).toNat
 (IntKind.i64.wrap
 (bits BinOp.and IntKind.i64
 ((((n.fdiv (16 : Int)).fdiv (16 : Int)).fdiv (16 : Int)).fdiv (16 : Int))
 (15 : Int) +
 (1 : Int))).toNat ++
 (cutL
 [(48 : UInt8), (49 : UInt8), (50 : UInt8), (51 : UInt8), (52 : UInt8), (53 : UInt8),
 (54 : UInt8), (55 : UInt8), (56 : UInt8), (57 : UInt8), (97 : UInt8), (98 : UInt8),
 (99 : UInt8), (100 : UInt8), (101 : UInt8), (102 : UInt8)]
 (bits BinOp.and IntKind.i64 (((n.fdiv (16 : Int)).fdiv (16 : Int)).fdiv (16 : Int))
 (15 : Int)).toNat
 (IntKind.i64.wrap
 (bits BinOp.and IntKind.i64 (((n.fdiv (16 : Int)).fdiv (16 : Int)).fdiv (16 : Int))
 (15 : Int) +
 (1 : Int))).toNat ++
 (cutL
 [(48 : UInt8), (49 : UInt8), (50 : UInt8), (51 : UInt8), (52 : UInt8), (53 : UInt8),
 (54 : UInt8), (55 : UInt8), (56 : UInt8), (57 : UInt8), (97 : UInt8), (98 : UInt8),
 (99 : UInt8), (100 : UInt8), (101 : UInt8), (102 : UInt8)]
 (bits BinOp.and IntKind.i64 ((n.fdiv (16 : Int)).fdiv (16 : Int)) (15 : Int)).toNat
 (IntKind.i64.wrap
 (bits BinOp.and IntKind.i64 ((n.fdiv (16 : Int)).fdiv (16 : Int)) (15 : Int) +
 (1 : Int))).toNat ++
 (cutL
 [(48 : UInt8), (49 : UInt8), (50 : UInt8), (51 : UInt8), (52 : UInt8), (53 : UInt8),
 (54 : UInt8), (55 : UInt8), (56 : UInt8), (57 : UInt8), (97 : UInt8),
 (98 : UInt8), (99 : UInt8), (100 : UInt8), (101 : UInt8), (102 : UInt8)]
 (bits BinOp.and IntKind.i64 (n.fdiv (16 : Int)) (15 : Int)).toNat
 (IntKind.i64.wrap
 (bits BinOp.and IntKind.i64 (n.fdiv (16 : Int)) (15 : Int) +
 (1 : Int))).toNat ++
 (cutL
 [(48 : UInt8), (49 : UInt8), (50 : UInt8), (51 : UInt8), (52 : UInt8),
 (53 : UInt8), (54 : UInt8), (55 : UInt8), (56 : UInt8), (57 : UInt8),
 (97 : UInt8), (98 : UInt8), (99 : UInt8), (100 : UInt8), (101 : UInt8),
 (102 : UInt8)]
 (bits BinOp.and IntKind.i64 n (15 : Int)).toNat
 (IntKind.i64.wrap (bits BinOp.and IntKind.i64 n (15 : Int) + (1 : Int))).toNat ++
 []))))))
 else none
 else none
 else none
 else none
 else none
 else none := by kernel_rfl

/-- the numbers of an address -/
def wdI (a : List UInt8) (i : Nat) : Int := gt a (2 * i) * 256 + gt a (2 * i + 1)
def wdL (a : List UInt8) : List V := [.int .i64 (wdI a 0), .int .i64 (wdI a 1), .int .i64 (wdI a 2), .int .i64 (wdI a 3), .int .i64 (wdI a 4), .int .i64 (wdI a 5), .int .i64 (wdI a 6), .int .i64 (wdI a 7)]
theorem wd_or (a : List UInt8) (i j : Nat) : bits .or .i64 (IntKind.i64.wrap (IntKind.i64.wrap (gt a i) * 256)) (IntKind.i64.wrap (gt a j)) = gt a i * 256 + gt a j := by
  have h1 := gt_lo a i; have h2 := gt_hi a i; have h3 := gt_lo a j; have h4 := gt_hi a j
  rw [w64 (x := gt a i) (by omega) (by omega), w64 (x := gt a i * 256) (by omega) (by omega), w64 (x := gt a j) (by omega) (by omega)]
  exact or256 _ _ (by omega) (by omega) (by omega) (by omega)
theorem wd_add (a : List UInt8) (i j : Nat) : IntKind.i64.wrap (IntKind.i64.wrap (IntKind.i64.wrap (gt a i) * 256) + IntKind.i64.wrap (gt a j)) = gt a i * 256 + gt a j := by
  have h1 := gt_lo a i; have h2 := gt_hi a i; have h3 := gt_lo a j; have h4 := gt_hi a j
  rw [w64 (x := gt a i) (by omega) (by omega), w64 (x := gt a i * 256) (by omega) (by omega), w64 (x := gt a j) (by omega) (by omega), w64 (by omega) (by omega)]
theorem adWords_v (a : List UInt8) : callV Eadb0 af_adWords [.barr 16 a] = some (.arr (.int .i64) 8 (wdL a)) := by
  rw [adWords_t]
  simp only [wd_or]
  rfl
theorem rAdWords_v (a : List UInt8) : callV Eadb0 af_rAdWords [.barr 16 a] = some (.arr (.int .i64) 8 (wdL a)) := by
  rw [rAdWords_t]
  simp only [wd_add]
  rfl
def cAdWords : List V → Option (V × Bool)
  | [.barr 16 a] => some (.arr (.int .i64) 8 (wdL a), true)
  | _ => none
theorem adWords_con : ∀ vs v, cAdWords vs = some (v, true) → SpecV Tryd.prog 84 vs v := by
  intro vs v h; unfold cAdWords at h; split at h
  · rename_i a
    injection h with h; injection h with h hb; subst h
    exact callV_ok Eadb0_ok af_adWords_ok (adWords_v _)
  · cases h
theorem rAdWords_con : ∀ vs v, cAdWords vs = some (v, true) → SpecV Tryd.prog 70 vs v := by
  intro vs v h; unfold cAdWords at h; split at h
  · rename_i a
    injection h with h; injection h with h hb; subst h
    exact callV_ok Eadb0_ok af_rAdWords_ok (rAdWords_v _)
  · cases h
/-! ### digits -/
def hexD (d : Nat) : UInt8 := [48, 49, 50, 51, 52, 53, 54, 55, 56, 57, 97, 98, 99, 100, 101, 102].getD d 0
def hx (n : Int) : UInt8 := hexD (n % 16).toNat
/-- a number of 16 bits in digits -/
def hexI (n : Int) : List UInt8 := if n / 16 = 0 then [hx n] else if n / 16 / 16 = 0 then [hx (n / 16), hx n] else if n / 16 / 16 / 16 = 0 then [hx (n / 16 / 16), hx (n / 16), hx n] else [hx (n / 16 / 16 / 16), hx (n / 16 / 16), hx (n / 16), hx n]
theorem adAnd15 (n : Int) : bits .and .i64 n 15 = n % 16 := and_mask_i64 n 4 (by omega)
theorem hexs_cut : ∀ k : Nat, k < 16 → cutL [48, 49, 50, 51, 52, 53, 54, 55, 56, 57, 97, 98, 99, 100, 101, 102] k (k + 1) = [hexD k] := by decide
theorem hxc (n : Int) : cutL [48, 49, 50, 51, 52, 53, 54, 55, 56, 57, 97, 98, 99, 100, 101, 102] (n % 16).toNat (IntKind.i64.wrap (n % 16 + 1)).toNat = [hx n] := by
  rw [w64 (by omega) (by omega), show (n % 16 + 1).toNat = (n % 16).toNat + 1 by omega]
  exact hexs_cut _ (by omega)
theorem hin (n : Int) : Am.inC (n % 16) (IntKind.i64.wrap (n % 16 + 1)).toNat = true := by
  rw [w64 (by omega) (by omega)]
  exact inC_t (by omega) (by omega)
theorem hin2 (n : Int) : Am.inC (IntKind.i64.wrap (n % 16 + 1)) 16 = true := by
  rw [w64 (by omega) (by omega)]
  exact inC_t (by omega) (by omega)
theorem fd16 (n : Int) : n.fdiv 16 = n / 16 := fdv (by decide)
theorem adDigits_v (n : Int) (h0 : 0 ≤ n) (h1 : n ≤ 65535) : callV Eadb0 af_adDigits [.int .i64 n] = some (.str (hexI n)) := by
  rw [adDigits_t]
  simp only [adAnd15, fd16, hxc, hin, hin2, List.length_append, List.length_cons, List.length_nil]
  unfold hexI
  by_cases c1 : n / 16 = 0
  · rw [if_pos c1]
    simp (disch := omega) only [dec_t, dec_f, inB_t, inC_t, andT_t, cond_true, cond_false, Bool.and_true, Bool.true_and, w64, wu32, wu8, nble_t, nblt_t, Bool.not_true, Bool.not_false, Bool.not_not, ieq_t, ieq_f, ine_t, ine_f, true_and, and_true, andT_l]
    rfl
  rw [if_neg c1]
  by_cases c2 : n / 16 / 16 = 0
  · rw [if_pos c2]
    simp (disch := omega) only [dec_t, dec_f, inB_t, inC_t, andT_t, cond_true, cond_false, Bool.and_true, Bool.true_and, w64, wu32, wu8, nble_t, nblt_t, Bool.not_true, Bool.not_false, Bool.not_not, ieq_t, ieq_f, ine_t, ine_f, true_and, and_true, andT_l]
    rfl
  rw [if_neg c2]
  by_cases c3 : n / 16 / 16 / 16 = 0
  · rw [if_pos c3]
    simp (disch := omega) only [dec_t, dec_f, inB_t, inC_t, andT_t, cond_true, cond_false, Bool.and_true, Bool.true_and, w64, wu32, wu8, nble_t, nblt_t, Bool.not_true, Bool.not_false, Bool.not_not, ieq_t, ieq_f, ine_t, ine_f, true_and, and_true, andT_l]
    rfl
  rw [if_neg c3]
  simp (disch := omega) only [dec_t, dec_f, inB_t, inC_t, andT_t, cond_true, cond_false, Bool.and_true, Bool.true_and, w64, wu32, wu8, nble_t, nblt_t, Bool.not_true, Bool.not_false, Bool.not_not, ieq_t, ieq_f, ine_t, ine_f, true_and, and_true, andT_l]
  rfl
def cAdDigits : List V → Option (V × Bool)
  | [.int .i64 n] => some (.str (hexI n), decide (0 ≤ n ∧ n ≤ 65535))
  | _ => none
theorem adDigits_con : ∀ vs v, cAdDigits vs = some (v, true) → SpecV Tryd.prog 105 vs v := by
  intro vs v h; unfold cAdDigits at h; split at h
  · rename_i n
    injection h with h; injection h with h hb; subst h
    exact callV_ok Eadb0_ok af_adDigits_ok ((by obtain ⟨h0, h1⟩ := of_decide_eq_true hb; exact adDigits_v _ h0 h1))
  · cases h
def cHx (k : Nat) : List V → Option (V × Bool)
  | [.int .i64 n] => some (.str (hexI n), decide (0 ≤ n ∧ n < 16 ^ k ∧ k ≤ 4 ∧ 0 < k))
  | _ => none
noncomputable def af_rHex : AF := afOf Tryd.prog Tryd.f72 []
theorem af_rHex_ok : AllOk Tryd.prog 72 af_rHex := .flat Tryd.func72 (by kernel_rfl) (by kernel_rfl) (by kernel_rfl) (by kernel_rfl) (by kernel_rfl)
noncomputable def Ehx (k : Nat) : Env := ⟨Tryd.prog, [(72, .val [.int .i64] (cHx k))], [], [], []⟩
theorem Ehx_ok {k : Nat} (h : ∀ vs v, cHx k vs = some (v, true) → SpecV Tryd.prog 72 vs v) : EnvOk (Ehx k) :=
  ⟨by kernel_rfl, .cons (enters_of Tryd.func72 (by kernel_rfl) rfl) h <| .nil, IOk.nil, COk.nil, XOk.nil⟩
theorem rHex_t (k : Nat) (n : Int) : callV (Ehx k) af_rHex [.int .i64 n] =
 bif decide (n < (16 : Int)) then
 bif
 andT true
 (Am.inC n (IntKind.i64.wrap (n + (1 : Int))).toNat &&
 Am.inC (IntKind.i64.wrap (n + (1 : Int))) (16 : Nat)) then
 some
 (V.str
 (cutL
 [(48 : UInt8), (49 : UInt8), (50 : UInt8), (51 : UInt8), (52 : UInt8), (53 : UInt8), (54 : UInt8),
 (55 : UInt8), (56 : UInt8), (57 : UInt8), (97 : UInt8), (98 : UInt8), (99 : UInt8), (100 : UInt8),
 (101 : UInt8), (102 : UInt8)]
 n.toNat (IntKind.i64.wrap (n + (1 : Int))).toNat))
 else none
 else
 bif
 andT
 (andT
 (andT true
 (decide
 ((0 : Int) ≤ IntKind.i64.wrap (n.tdiv (16 : Int)) ∧
 IntKind.i64.wrap (n.tdiv (16 : Int)) < (16 : Int) ^ k ∧ k ≤ (4 : Nat) ∧ (0 : Nat) < k)))
 (decide
 ((0 : Int) ≤ n.tmod (16 : Int) ∧ n.tmod (16 : Int) < (16 : Int) ^ k ∧ k ≤ (4 : Nat) ∧ (0 : Nat) < k)))
 (((hexI (IntKind.i64.wrap (n.tdiv (16 : Int)))).length + (hexI (n.tmod (16 : Int))).length).ble
 (9223372036854775807 : Nat)) then
 some (V.str (hexI (IntKind.i64.wrap (n.tdiv (16 : Int))) ++ hexI (n.tmod (16 : Int))))
 else none := by kernel_rfl

theorem hexI_len (n : Int) : (hexI n).length ≤ 4 := by
  unfold hexI
  repeat' split
  all_goals simp
theorem hexI_step {n : Int} (h : 16 ≤ n) (h1 : n ≤ 65535) : hexI n = hexI (n / 16) ++ hexI (n % 16) := by
  have e : hexI (n % 16) = [hx n] := by
    unfold hexI
    rw [if_pos (by omega)]
    unfold hx
    rw [show n % 16 % 16 = n % 16 by omega]
  rw [e]
  unfold hexI
  rw [if_neg (show ¬ n / 16 = 0 by omega)]
  by_cases c2 : n / 16 / 16 = 0
  · rw [if_pos c2, if_pos c2]; rfl
  rw [if_neg c2, if_neg c2]
  by_cases c3 : n / 16 / 16 / 16 = 0
  · rw [if_pos c3, if_pos c3]; rfl
  rw [if_neg c3, if_neg c3, if_pos (by omega)]; rfl
theorem rHex_v (k : Nat) (n : Int) (h0 : 0 ≤ n) (h1 : n < 16 ^ (k + 1)) (hk : k + 1 ≤ 4) : callV (Ehx k) af_rHex [.int .i64 n] = some (.str (hexI n)) := by
  have hn : n ≤ 65535 := by
    obtain rfl | rfl | rfl | rfl : k = 0 ∨ k = 1 ∨ k = 2 ∨ k = 3 := by omega
    all_goals simp at h1; omega
  rw [rHex_t]
  by_cases c : n < 16
  · have e : n % 16 = n := by omega
    have e1 := hxc n; have e2 := hin n; have e3 := hin2 n
    rw [e] at e1 e2 e3
    have eh : hexI n = [hx n] := by unfold hexI; rw [if_pos (by omega)]
    rw [e1, e2, e3, eh]
    simp (disch := omega) only [dec_t, dec_f, inB_t, inC_t, andT_t, cond_true, cond_false, Bool.and_true, Bool.true_and, w64, wu32, wu8, nble_t, nblt_t, Bool.not_true, Bool.not_false, Bool.not_not, ieq_t, ieq_f, ine_t, ine_f, true_and, and_true, andT_l]
  · have ht : n.tdiv 16 = n / 16 := tdv h0
    have hm : n.tmod 16 = n % 16 := tmd h0
    have l1 := hexI_len (n / 16); have l2 := hexI_len (n % 16)
    have p1 : n / 16 < 16 ^ k ∧ n % 16 < 16 ^ k ∧ 0 < k := by
      obtain rfl | rfl | rfl | rfl : k = 0 ∨ k = 1 ∨ k = 2 ∨ k = 3 := by omega
      all_goals simp at h1 ⊢; omega
    have d1 : decide (0 ≤ n / 16 ∧ n / 16 < (16 : Int) ^ k ∧ k ≤ 4 ∧ 0 < k) = true := decide_eq_true ⟨by omega, p1.1, by omega, p1.2.2⟩
    have d2 : decide (0 ≤ n % 16 ∧ n % 16 < (16 : Int) ^ k ∧ k ≤ 4 ∧ 0 < k) = true := decide_eq_true ⟨by omega, p1.2.1, by omega, p1.2.2⟩
    rw [ht, hm, w64 (x := n / 16) (by omega) (by omega), d1, d2, hexI_step (n := n) (by omega) hn]
    simp (disch := omega) only [dec_t, dec_f, inB_t, inC_t, andT_t, cond_true, cond_false, Bool.and_true, Bool.true_and, w64, wu32, wu8, nble_t, nblt_t, Bool.not_true, Bool.not_false, Bool.not_not, ieq_t, ieq_f, ine_t, ine_f, true_and, and_true, andT_l]
theorem hx_con : ∀ (k : Nat), ∀ vs v, cHx k vs = some (v, true) → SpecV Tryd.prog 72 vs v
  | 0 => by
    intro vs v h; unfold cHx at h; split at h
    · rename_i n
      injection h with h; injection h with h hb; subst h
      obtain ⟨_, _, _, h3⟩ := of_decide_eq_true hb
      exact absurd h3 (by omega)
    · cases h
  | k + 1 => by
    intro vs v h; unfold cHx at h; split at h
    · rename_i n
      injection h with h; injection h with h hb; subst h
      obtain ⟨h0, h1, h2, _⟩ := of_decide_eq_true hb
      exact callV_ok (Ehx_ok (hx_con k)) af_rHex_ok (rHex_v k n h0 h1 h2)
    · cases h
theorem rHex_con : ∀ vs v, cAdDigits vs = some (v, true) → SpecV Tryd.prog 72 vs v := by
  intro vs v h; unfold cAdDigits at h; split at h
  · rename_i n
    injection h with h; injection h with h hb; subst h
    obtain ⟨h0, h1⟩ := of_decide_eq_true hb
    have e : cHx 4 [.int .i64 n] = some (.str (hexI n), decide (0 ≤ n ∧ n < 16 ^ 4 ∧ 4 ≤ 4 ∧ 0 < 4)) := rfl
    rw [decide_eq_true (show 0 ≤ n ∧ n < 16 ^ 4 ∧ 4 ≤ 4 ∧ 0 < 4 from ⟨h0, by omega, by omega, by omega⟩)] at e
    exact hx_con 4 _ _ e
  · cases h
/-! ### rows of 0 -/
/-- how many 0 a list begins with -/
def zrF : List V → Nat
  | [] => 0
  | v :: l => if toI v = 0 then zrF l + 1 else 0
theorem zrF_le : ∀ l : List V, zrF l ≤ l.length
  | [] => Nat.le_refl _
  | v :: l => by
    have := zrF_le l
    simp only [zrF, List.length_cons]
    split <;> omega
def znW (w : List V) : List (Nat × Option Blk) := [(0, some (.var (.arr 8 (.int .i64)) (.arr (.int .i64) 8 w)))]
def znS (w : List V) (p n : Int) : S := ⟨[(1, .int .i64 p), (2, .ref 0 [] 0 (.arr 8 (.int .i64))), (5, .int .i64 n)], znW w, 1, true, 21⟩
def znX (n : Int) : S := ⟨[(5, .int .i64 n)], [], 0, true, 21⟩
structure ZnI where
  (w : List V)
  (p n : Int)
def znGet (s : S) : ZnI := ⟨toE (bkD s 0), toI (lkD s 1), toI (lkD s 5)⟩
def znI (x : ZnI) : Prop := 0 ≤ x.p ∧ 0 ≤ x.n ∧ x.p + x.n ≤ 8 ∧ x.w.length = 8
def znO (x : ZnI) : Tr := .leaf (.exit 0) (znX (x.n + zrF (x.w.drop (x.p + x.n).toNat)))
noncomputable def znG : S → Option (Bool × Tr) := gX znGet (fun x => znS x.w x.p x.n) znI znO
noncomputable def af_rAdZeros : AF := afOf Tryd.prog Tryd.f71 [.sum [1, 2, 5] [] znG]
noncomputable def znC : AC := (af_rAdZeros.ac.sums.headD (.skip, [], [], fun _ => none)).1
theorem zn_b (w : List V) (p n : Int) : aev Eadb0 (inlN Eadb0 6) znC (bodyF (Am.ways [1, 2, 5] [5] []) []) (znS w p n) =
 bif decide (IntKind.i64.wrap (p + n) < (8 : Int)) then
 bif andT true (inB (IntKind.i64.wrap (p + n)) (8 : Nat)) then
 bif toI (w.getD (IntKind.i64.wrap (p + n)).toNat V.undef) == (0 : Int) then
 some (Ex.normal, znS w p (IntKind.i64.wrap (n + (1 : Int))))
 else some (Ex.exit (0 : Nat), znX n)
 else none
 else some (Ex.exit (0 : Nat), znX n) := by kernel_rfl

theorem zrF_0 {v : V} {l : List V} (h : toI v = 0) : zrF (v :: l) = zrF l + 1 := by simp [zrF, h]
theorem zrF_1 {v : V} {l : List V} (h : ¬ toI v = 0) : zrF (v :: l) = 0 := by simp [zrF, h]
theorem zn_loop : LoopOk Tryd.prog znC.erase [] znG := by
  refine loopX_ok Eadb0_ok (d := 6) (AC.flat_ok (by kernel_rfl)) (Am.ways [1, 2, 5] [5] []) [] znGet _ znO znI (fun x => (8 - (x.p + x.n)).toNat) (fun _ => rfl) ?_
  rintro ⟨w, p, n⟩ ⟨h0, h1, h2, h3⟩
  simp only at h0 h1 h2 h3 ⊢
  rw [zn_b, w64 (x := p + n) (by omega) (by omega)]
  unfold znO
  dsimp only
  by_cases hi : p + n < 8
  · have hd := drop_next (l := w) (i := (p + n).toNat) (d := .undef) (by omega)
    rw [hd]
    by_cases hz : toI (w.getD (p + n).toNat .undef) = 0
    · refine .inl ⟨⟨w, p, n + 1⟩, ?_, ⟨by dsimp only; omega, by dsimp only; omega, by dsimp only; omega, h3⟩, by dsimp only; omega, leaf_eq ?_⟩
      · simp (disch := omega) only [dec_t, dec_f, inB_t, inC_t, andT_t, cond_true, cond_false, Bool.and_true, Bool.true_and, w64, wu32, wu8, nble_t, nblt_t, Bool.not_true, Bool.not_false, Bool.not_not, ieq_t, ieq_f, ine_t, ine_f, true_and, and_true, andT_l]
      · dsimp only
        rw [zrF_0 hz, show (p + (n + 1)).toNat = (p + n).toNat + 1 by omega, show n + 1 + (zrF (w.drop ((p + n).toNat + 1)) : Int) = n + ((zrF (w.drop ((p + n).toNat + 1)) + 1 : Nat) : Int) by omega]
    · refine .inr ⟨.exit 0, znX n, ?_, nofun, ?_⟩
      · simp (disch := omega) only [dec_t, dec_f, inB_t, inC_t, andT_t, cond_true, cond_false, Bool.and_true, Bool.true_and, w64, wu32, wu8, nble_t, nblt_t, Bool.not_true, Bool.not_false, Bool.not_not, ieq_t, ieq_f, ine_t, ine_f, true_and, and_true, andT_l]
      · rw [zrF_1 hz, show n + ((0 : Nat) : Int) = n by omega]
        exact .leaf
  · refine .inr ⟨.exit 0, znX n, ?_, nofun, ?_⟩
    · simp (disch := omega) only [dec_t, dec_f, inB_t, inC_t, andT_t, cond_true, cond_false, Bool.and_true, Bool.true_and, w64, wu32, wu8, nble_t, nblt_t, Bool.not_true, Bool.not_false, Bool.not_not, ieq_t, ieq_f, ine_t, ine_f, true_and, and_true, andT_l]
    · rw [List.drop_of_length_le (by omega), show n + ((zrF [] : Nat) : Int) = n by show n + ((0 : Nat) : Int) = n; omega]
      exact .leaf
theorem af_rAdZeros_ok : AllOk Tryd.prog 71 af_rAdZeros := .sums Tryd.func71 (by kernel_rfl) (by kernel_rfl) (by kernel_rfl) (by kernel_rfl) (sums_one (c := znC) (ts := [1, 2, 5]) (by kernel_rfl) (by kernel_rfl) zn_loop)
theorem rAdZeros_t (w : List V) (p : Int) : callV Eadb0 af_rAdZeros [.arr (.int .i64) 8 w, .int .i64 p] =
 bif okG (znS w p (0 : Int) = znS w p (0 : Int) ∧ znI { w := w, p := p, n := (0 : Int) }) then
 some (V.int IntKind.i64 ((0 : Int) + (↑(zrF (List.drop (p + (0 : Int)).toNat w)) : Int)))
 else none := by kernel_rfl

def cRAdZeros : List V → Option (V × Bool)
  | [.arr (.int .i64) 8 w, .int .i64 p] => some (.int .i64 (zrF (w.drop p.toNat)), decide (w.length = 8 ∧ 0 ≤ p ∧ p ≤ 8))
  | _ => none
/-! ### the longest row -/
def rwA (w : List V) (f n i z k : Int) : S := ⟨[(1, .ref 0 [] 0 (.arr 8 (.int .i64))), (6, .int .i64 i), (7, .int .i64 z), (4, .int .i64 f), (5, .int .i64 n), (8, .int .i64 k)], znW w, 1, true, 33⟩
structure RwA where
  (w : List V)
  (f n i z k : Int)
def rwAget (s : S) : RwA := ⟨toE (bkD s 0), toI (lkD s 4), toI (lkD s 5), toI (lkD s 6), toI (lkD s 7), toI (lkD s 8)⟩
def rwAI (x : RwA) : Prop := 0 ≤ x.i ∧ 0 ≤ x.z ∧ x.i + x.z ≤ 8 ∧ x.w.length = 8
def rwAO (x : RwA) : Tr := .leaf (.exit 2) (rwA x.w x.f x.n x.i (x.z + zrF (x.w.drop (x.i + x.z).toNat)) x.k)
noncomputable def rwAG : S → Option (Bool × Tr) := gX rwAget (fun x => rwA x.w x.f x.n x.i x.z x.k) rwAI rwAO
def rwB (w : List V) (f n k : Int) : S := ⟨[(1, .ref 0 [] 0 (.arr 8 (.int .i64))), (8, .int .i64 k), (4, .int .i64 f), (5, .int .i64 n)], znW w, 1, true, 33⟩
def rwX (f n : Int) : S := ⟨[(4, .int .i64 f), (5, .int .i64 n)], [], 0, true, 33⟩
structure RwB where
  (w : List V)
  (f n k : Int)
def rwBget (s : S) : RwB := ⟨toE (bkD s 0), toI (lkD s 4), toI (lkD s 5), toI (lkD s 8)⟩
/-- the longest row of 0 from a place on -/
def rwF : List V → Int → Int → Int → Int × Int
  | [], _, f, n => (f, n)
  | v :: l, i, f, n => if (zrF (v :: l) : Int) > n then rwF l (i + 1) i (zrF (v :: l)) else rwF l (i + 1) f n
def rwBI (x : RwB) : Prop := 0 ≤ x.k ∧ x.k ≤ 8 ∧ x.w.length = 8
def rwBO (x : RwB) : Tr := .leaf (.exit 0) (rwX (rwF (x.w.drop x.k.toNat) x.k x.f x.n).1 (rwF (x.w.drop x.k.toNat) x.k x.f x.n).2)
noncomputable def rwBG : S → Option (Bool × Tr) := gX rwBget (fun x => rwB x.w x.f x.n x.k) rwBI rwBO
noncomputable def af_adRow : AF := afOf Tryd.prog Tryd.f85 [.sum [1, 6, 7, 4, 5, 8] [] rwAG, .sum [1, 8, 4, 5] [] rwBG]
noncomputable def rwBC : AC := (af_adRow.ac.sums.headD (.skip, [], [], fun _ => none)).1
noncomputable def rwAC : AC := (rwBC.sums.headD (.skip, [], [], fun _ => none)).1
theorem rwA_b (w : List V) (f n i z k : Int) : aev Eadb0 (inlN Eadb0 6) rwAC (bodyF (Am.ways [1, 6, 7, 4, 5, 8] [1, 6, 7, 4, 5, 8] []) []) (rwA w f n i z k) =
 bif decide (IntKind.i64.wrap (i + z) < (8 : Int)) then
 bif andT true (inB (IntKind.i64.wrap (i + z)) (8 : Nat)) then
 bif toI (w.getD (IntKind.i64.wrap (i + z)).toNat V.undef) == (0 : Int) then
 some (Ex.normal, rwA w f n i (IntKind.i64.wrap (z + (1 : Int))) k)
 else some (Ex.exit (2 : Nat), rwA w f n i z k)
 else none
 else some (Ex.exit (2 : Nat), rwA w f n i z k) := by kernel_rfl

theorem rwB_b (w : List V) (f n k : Int) : aev Eadb0 (inlN Eadb0 6) rwBC (bodyF (Am.ways [1, 8, 4, 5] [4, 5] []) []) (rwB w f n k) =
 bif decide (k < (8 : Int)) then
 bif
 okG
 (rwA w f n k (0 : Int) k = rwA w f n k (0 : Int) k ∧
 rwAI { w := w, f := f, n := n, i := k, z := (0 : Int), k := k }) then
 bif decide ((0 : Int) + (↑(zrF (List.drop (k + (0 : Int)).toNat w)) : Int) > n) then
 some
 (Ex.normal,
 rwB w k ((0 : Int) + (↑(zrF (List.drop (k + (0 : Int)).toNat w)) : Int)) (IntKind.i64.wrap (k + (1 : Int))))
 else some (Ex.normal, rwB w f n (IntKind.i64.wrap (k + (1 : Int))))
 else none
 else some (Ex.exit (0 : Nat), rwX f n) := by kernel_rfl

theorem rAdZeros_v (w : List V) (p : Int) (h : w.length = 8) (h0 : 0 ≤ p) (h1 : p ≤ 8) : callV Eadb0 af_rAdZeros [.arr (.int .i64) 8 w, .int .i64 p] = some (.int .i64 (zrF (w.drop p.toNat))) := by
  rw [rAdZeros_t, okG_e ⟨h0, Int.le_refl _, by dsimp only; omega, h⟩, Int.add_zero, Int.zero_add]
  rfl
theorem rAdZeros_con : ∀ vs v, cRAdZeros vs = some (v, true) → SpecV Tryd.prog 71 vs v := by
  intro vs v h; unfold cRAdZeros at h; split at h
  · rename_i w p
    injection h with h; injection h with h hb; subst h
    exact callV_ok Eadb0_ok af_rAdZeros_ok ((by obtain ⟨h0, h1, h2⟩ := of_decide_eq_true hb; exact rAdZeros_v _ _ h0 h1 h2))
  · cases h
theorem rwA_loop : LoopOk Tryd.prog rwAC.erase [] rwAG := by
  refine loopX_ok Eadb0_ok (d := 6) (AC.flat_ok (by kernel_rfl)) (Am.ways [1, 6, 7, 4, 5, 8] [1, 6, 7, 4, 5, 8] []) [] rwAget _ rwAO rwAI (fun x => (8 - (x.i + x.z)).toNat) (fun _ => rfl) ?_
  rintro ⟨w, f, n, i, z, k⟩ ⟨h0, h1, h2, h3⟩
  simp only at h0 h1 h2 h3 ⊢
  rw [rwA_b, w64 (x := i + z) (by omega) (by omega)]
  unfold rwAO
  dsimp only
  by_cases hi : i + z < 8
  · have hd := drop_next (l := w) (i := (i + z).toNat) (d := .undef) (by omega)
    rw [hd]
    by_cases hz : toI (w.getD (i + z).toNat .undef) = 0
    · refine .inl ⟨⟨w, f, n, i, z + 1, k⟩, ?_, ⟨by dsimp only; omega, by dsimp only; omega, by dsimp only; omega, h3⟩, by dsimp only; omega, leaf_eq ?_⟩
      · simp (disch := omega) only [dec_t, dec_f, inB_t, inC_t, andT_t, cond_true, cond_false, Bool.and_true, Bool.true_and, w64, wu32, wu8, nble_t, nblt_t, Bool.not_true, Bool.not_false, Bool.not_not, ieq_t, ieq_f, ine_t, ine_f, true_and, and_true, andT_l]
      · dsimp only
        rw [zrF_0 hz, show (i + (z + 1)).toNat = (i + z).toNat + 1 by omega, show z + 1 + (zrF (w.drop ((i + z).toNat + 1)) : Int) = z + ((zrF (w.drop ((i + z).toNat + 1)) + 1 : Nat) : Int) by omega]
    · refine .inr ⟨.exit 2, rwA w f n i z k, ?_, nofun, ?_⟩
      · simp (disch := omega) only [dec_t, dec_f, inB_t, inC_t, andT_t, cond_true, cond_false, Bool.and_true, Bool.true_and, w64, wu32, wu8, nble_t, nblt_t, Bool.not_true, Bool.not_false, Bool.not_not, ieq_t, ieq_f, ine_t, ine_f, true_and, and_true, andT_l]
      · rw [zrF_1 hz, show z + ((0 : Nat) : Int) = z by omega]
        exact .leaf
  · refine .inr ⟨.exit 2, rwA w f n i z k, ?_, nofun, ?_⟩
    · simp (disch := omega) only [dec_t, dec_f, inB_t, inC_t, andT_t, cond_true, cond_false, Bool.and_true, Bool.true_and, w64, wu32, wu8, nble_t, nblt_t, Bool.not_true, Bool.not_false, Bool.not_not, ieq_t, ieq_f, ine_t, ine_f, true_and, and_true, andT_l]
    · rw [List.drop_of_length_le (by omega), show z + ((zrF [] : Nat) : Int) = z by show z + ((0 : Nat) : Int) = z; omega]
      exact .leaf
theorem rwBC_ok : LoopsOk Tryd.prog rwBC := sums_one (c := rwAC) (ts := [1, 6, 7, 4, 5, 8]) (by kernel_rfl) (by kernel_rfl) rwA_loop
theorem rwF_0 {v : V} {l : List V} {i f n : Int} (h : (zrF (v :: l) : Int) > n) : rwF (v :: l) i f n = rwF l (i + 1) i (zrF (v :: l)) := by simp only [rwF]; rw [if_pos h]
theorem rwF_1 {v : V} {l : List V} {i f n : Int} (h : ¬ (zrF (v :: l) : Int) > n) : rwF (v :: l) i f n = rwF l (i + 1) f n := by simp only [rwF]; rw [if_neg h]
theorem rwB_loop : LoopOk Tryd.prog rwBC.erase [] rwBG := by
  refine loopX_ok Eadb0_ok (d := 6) rwBC_ok (Am.ways [1, 8, 4, 5] [4, 5] []) [] rwBget _ rwBO rwBI (fun x => (8 - x.k).toNat) (fun _ => rfl) ?_
  rintro ⟨w, f, n, k⟩ ⟨h0, h1, h3⟩
  simp only at h0 h1 h3 ⊢
  rw [rwB_b]
  unfold rwBO
  dsimp only
  by_cases hi : k < 8
  · have hd := drop_next (l := w) (i := k.toNat) (d := .undef) (by omega)
    have hg : okG (rwA w f n k 0 k = rwA w f n k 0 k ∧ rwAI ⟨w, f, n, k, 0, k⟩) = true := okG_e ⟨h0, Int.le_refl _, by dsimp only; omega, h3⟩
    rw [hg, Int.add_zero, Int.zero_add]
    have hk : (k + 1).toNat = k.toNat + 1 := by omega
    by_cases hz : (zrF (w.drop k.toNat) : Int) > n
    · refine .inl ⟨⟨w, k, zrF (w.drop k.toNat), k + 1⟩, ?_, ⟨by dsimp only; omega, by dsimp only; omega, h3⟩, by dsimp only; omega, leaf_eq ?_⟩
      · simp (disch := omega) only [dec_t, dec_f, inB_t, inC_t, andT_t, cond_true, cond_false, Bool.and_true, Bool.true_and, w64, wu32, wu8, nble_t, nblt_t, Bool.not_true, Bool.not_false, Bool.not_not, ieq_t, ieq_f, ine_t, ine_f, true_and, and_true, andT_l]
      · dsimp only
        rw [hk]
        rw [hd] at hz ⊢
        rw [rwF_0 hz]
    · refine .inl ⟨⟨w, f, n, k + 1⟩, ?_, ⟨by dsimp only; omega, by dsimp only; omega, h3⟩, by dsimp only; omega, leaf_eq ?_⟩
      · simp (disch := omega) only [dec_t, dec_f, inB_t, inC_t, andT_t, cond_true, cond_false, Bool.and_true, Bool.true_and, w64, wu32, wu8, nble_t, nblt_t, Bool.not_true, Bool.not_false, Bool.not_not, ieq_t, ieq_f, ine_t, ine_f, true_and, and_true, andT_l]
      · dsimp only
        rw [hk]
        rw [hd] at hz
        rw [hd, rwF_1 hz]
  · refine .inr ⟨.exit 0, rwX f n, ?_, nofun, ?_⟩
    · simp (disch := omega) only [dec_t, dec_f, inB_t, inC_t, andT_t, cond_true, cond_false, Bool.and_true, Bool.true_and, w64, wu32, wu8, nble_t, nblt_t, Bool.not_true, Bool.not_false, Bool.not_not, ieq_t, ieq_f, ine_t, ine_f, true_and, and_true, andT_l]
    · rw [List.drop_of_length_le (by omega)]
      exact .leaf
theorem af_adRow_ok : AllOk Tryd.prog 85 af_adRow := .sums Tryd.func85 (by kernel_rfl) (by kernel_rfl) (by kernel_rfl) (by kernel_rfl) (sums_two (c := rwBC) (c2 := rwAC) (ts := [1, 8, 4, 5]) (ts2 := [1, 6, 7, 4, 5, 8]) (by kernel_rfl) (by kernel_rfl) rwB_loop rwA_loop)
theorem adRow_t (w : List V) : callV Eadb0 af_adRow [.arr (.int .i64) 8 w] =
 bif
 okG
 (rwB w (0 : Int) (0 : Int) (0 : Int) = rwB w (0 : Int) (0 : Int) (0 : Int) ∧
 rwBI { w := w, f := (0 : Int), n := (0 : Int), k := (0 : Int) }) then
 some
 (V.tup
 [V.int IntKind.i64
 (rwF
 (List.drop (rwBget (rwB w (0 : Int) (0 : Int) (0 : Int))).k.toNat
 (rwBget (rwB w (0 : Int) (0 : Int) (0 : Int))).w)
 (rwBget (rwB w (0 : Int) (0 : Int) (0 : Int))).k (rwBget (rwB w (0 : Int) (0 : Int) (0 : Int))).f
 (rwBget (rwB w (0 : Int) (0 : Int) (0 : Int))).n).1,
 V.int IntKind.i64
 (rwF
 (List.drop (rwBget (rwB w (0 : Int) (0 : Int) (0 : Int))).k.toNat
 (rwBget (rwB w (0 : Int) (0 : Int) (0 : Int))).w)
 (rwBget (rwB w (0 : Int) (0 : Int) (0 : Int))).k (rwBget (rwB w (0 : Int) (0 : Int) (0 : Int))).f
 (rwBget (rwB w (0 : Int) (0 : Int) (0 : Int))).n).2])
 else none := by kernel_rfl

def cAdRow : List V → Option (V × Bool)
  | [.arr (.int .i64) 8 w] => some (.tup [.int .i64 (rwF w 0 0 0).1, .int .i64 (rwF w 0 0 0).2], decide (w.length = 8))
  | _ => none
theorem adRow_v (w : List V) (h : w.length = 8) : callV Eadb0 af_adRow [.arr (.int .i64) 8 w] = some (.tup [.int .i64 (rwF w 0 0 0).1, .int .i64 (rwF w 0 0 0).2]) := by
  rw [adRow_t, okG_e ⟨Int.le_refl _, by show (0 : Int) ≤ 8; omega, h⟩]
  rfl
theorem adRow_con : ∀ vs v, cAdRow vs = some (v, true) → SpecV Tryd.prog 85 vs v := by
  intro vs v h; unfold cAdRow at h; split at h
  · rename_i w
    injection h with h; injection h with h hb; subst h
    exact callV_ok Eadb0_ok af_adRow_ok (adRow_v _ (of_decide_eq_true hb))
  · cases h
/-! ### numbers with colons between -/
def jnL (l : List V) : List V := l.map fun v => .str (hexI (toI v))
def jnF (l : List V) : List UInt8 := joinV (jnL l) [58]
def rg16 (l : List V) : Bool := l.all fun v => decide (0 ≤ toI v ∧ toI v ≤ 65535)
def jnA (l : List V) : S := ⟨[(6, .rows (.int .i64) l), (7, .int .i64 l.length), (8, .int .i64 0), (3, .nils)], [], 0, true, 20⟩
def adJnB (l : List V) (i : Int) (o : List V) : S := ⟨[(6, .rows (.int .i64) l), (7, .int .i64 l.length), (8, .int .i64 i), (3, .own 0 o.length .str)], [(0, some (.row 9 .str (.rows .str o)))], 1, true, 20⟩
def jnX0 : S := ⟨[(3, .nils)], [], 0, true, 20⟩
def jnX1 (o : List V) : S := ⟨[(3, .own 0 o.length .str)], [(0, some (.row 9 .str (.rows .str o)))], 1, true, 20⟩
structure JnI where
  (l : List V)
  (i : Int)
  (o : List V)
def jnGet (s : S) : JnI := ⟨toR (lkD s 6), toI (lkD s 8), toR (bkD s 0)⟩
def jnSt (x : JnI) : S := if x.i = 0 then jnA x.l else adJnB x.l x.i x.o
def jnI (x : JnI) : Prop := 0 ≤ x.i ∧ x.i ≤ x.l.length ∧ x.l.length ≤ 1000 ∧ x.o.length = x.i ∧ ∀ v ∈ x.l, 0 ≤ toI v ∧ toI v ≤ 65535
def jnO (x : JnI) : Tr := .br ((x.o ++ jnL (x.l.drop x.i.toNat)).isEmpty) (.leaf (.exit 0) jnX0) (.leaf (.exit 0) (jnX1 (x.o ++ jnL (x.l.drop x.i.toNat))))
noncomputable def jnG : S → Option (Bool × Tr) := gX jnGet jnSt jnI jnO
noncomputable def af_adJoin : AF := afOf Tryd.prog Tryd.f86 [.sum [6, 7, 8, 3] [] jnG]
noncomputable def jnC : AC := (af_adJoin.ac.sums.headD (.skip, [], [], fun _ => none)).1
noncomputable def GEadj : List (Nat × Con) := [(105, .val [.int .i64] cAdDigits), (106, .val [.rows (.str), .str] cStrJoin)]
theorem GEadj_ok : GOk Tryd.prog GEadj := .cons (enters_of Tryd.func105 (by kernel_rfl) rfl) adDigits_con <| .cons (enters_of Tryd.func106 (by kernel_rfl) rfl) xJoin_con <| .nil
noncomputable def IEadj : List (Nat × AF) := []
theorem IEadj_ok : IOk Tryd.prog IEadj := .nil
noncomputable def CEadj : List (Nat × (List Nat × (S → Option (Bool × Tr)))) := []
theorem CEadj_ok : COk Tryd.prog CEadj := .nil
noncomputable def XEadj : List (Nat × (List Sh × (List V → PT))) := []
theorem XEadj_ok : XOk Tryd.prog XEadj := .nil
noncomputable def Eadj : Env := ⟨Tryd.prog, GEadj, IEadj, CEadj, XEadj⟩
theorem Eadj_ok : EnvOk Eadj := ⟨by kernel_rfl, GEadj_ok, IEadj_ok, CEadj_ok, XEadj_ok⟩
theorem jnA_b (l : List V) : aev Eadj (inlN Eadj 6) jnC (bodyF (Am.ways [6, 7, 8, 3] [3] []) []) (jnA l) =
 bif decide ((0 : Int) < (↑l.length : Int)) then
 bif andT true (inB (0 : Int) l.length) then
 bif
 andT true
 (decide ((0 : Int) ≤ toI (l.getD (0 : Nat) V.undef) ∧ toI (l.getD (0 : Nat) V.undef) ≤ (65535 : Int))) then
 some
 (Ex.normal,
 adJnB l (1 : Int) (V.str (hexI (toI (l.getD (0 : Nat) V.undef))) :: List.replicate (nat_lit 0) (V.str [])))
 else none
 else none
 else some (Ex.exit (0 : Nat), jnX0) := by kernel_rfl

theorem jnB_b (l : List V) (i : Int) (o : List V) : aev Eadj (inlN Eadj 6) jnC (bodyF (Am.ways [6, 7, 8, 3] [3] []) []) (adJnB l i o) =
 bif decide (i < (↑l.length : Int)) then
 bif andT true (inB i l.length) then
 bif
 andT
 (andT true
 (decide ((0 : Int) ≤ toI (l.getD i.toNat V.undef) ∧ toI (l.getD i.toNat V.undef) ≤ (65535 : Int))))
 (((o ++ V.str (hexI (toI (l.getD i.toNat V.undef))) :: List.replicate (nat_lit 0) (V.str [])).length *
 (16 : Nat)).ble
 (140737488355328 : Nat)) then
 some
 (Ex.normal,
 adJnB l (IntKind.i64.wrap (i + (1 : Int)))
 (o ++ V.str (hexI (toI (l.getD i.toNat V.undef))) :: List.replicate (nat_lit 0) (V.str [])))
 else none
 else none
 else some (Ex.exit (0 : Nat), jnX1 o) := by kernel_rfl

theorem jnL_cons {l : List V} {i : Nat} (h : i < l.length) : jnL (l.drop i) = .str (hexI (toI (l.getD i .undef))) :: jnL (l.drop (i + 1)) := by
  rw [drop_next (d := .undef) h]; rfl
theorem jn_loop : LoopOk Tryd.prog jnC.erase [] jnG := by
  refine loopX_ok Eadj_ok (d := 6) (AC.flat_ok (by kernel_rfl)) (Am.ways [6, 7, 8, 3] [3] []) [] jnGet jnSt jnO jnI (fun x => (x.l.length - x.i).toNat) (fun x => by unfold jnSt; split <;> rfl) ?_
  rintro ⟨l, i, o⟩ ⟨h0, h1, h2, h3, h4⟩
  simp only at h0 h1 h2 h3 h4 ⊢
  have hr : ∀ k, k < l.length → 0 ≤ toI (l.getD k .undef) ∧ toI (l.getD k .undef) ≤ 65535 := by
    intro k hk
    rw [List.getD_eq_getElem?_getD, List.getElem?_eq_getElem hk]
    exact h4 _ (List.getElem_mem hk)
  by_cases hz : i = 0
  · subst hz
    obtain rfl : o = [] := List.length_eq_zero_iff.1 (by omega)
    rw [show jnSt ⟨l, 0, []⟩ = jnA l from if_pos rfl, jnA_b]
    by_cases hi : 0 < l.length
    · obtain ⟨r0, r1⟩ := hr 0 hi
      refine .inl ⟨⟨l, 1, [.str (hexI (toI (l.getD 0 .undef)))]⟩, ?_, ⟨by dsimp only; omega, by dsimp only; omega, h2, rfl, h4⟩, by dsimp only; omega, leaf_eq ?_⟩
      · simp (disch := omega) only [dec_t, dec_f, inB_t, inC_t, andT_t, cond_true, cond_false, Bool.and_true, Bool.true_and, w64, wu32, wu8, nble_t, nblt_t, Bool.not_true, Bool.not_false, Bool.not_not, ieq_t, ieq_f, ine_t, ine_f, true_and, and_true, andT_l]
        rfl
      · unfold jnO
        dsimp only
        rw [show (0 : Int).toNat = 0 from rfl, show (1 : Int).toNat = 1 from rfl, jnL_cons hi]
        rfl
    · refine .inr ⟨.exit 0, jnX0, ?_, nofun, ?_⟩
      · simp (disch := omega) only [dec_t, dec_f, inB_t, inC_t, andT_t, cond_true, cond_false, Bool.and_true, Bool.true_and, w64, wu32, wu8, nble_t, nblt_t, Bool.not_true, Bool.not_false, Bool.not_not, ieq_t, ieq_f, ine_t, ine_f, true_and, and_true, andT_l]
      · unfold jnO
        dsimp only
        rw [List.drop_of_length_le (by omega)]
        exact leaf_t rfl .leaf
  · rw [show jnSt ⟨l, i, o⟩ = adJnB l i o from if_neg hz, jnB_b]
    by_cases hi : i < l.length
    · obtain ⟨r0, r1⟩ := hr i.toNat (by omega)
      have ho : (o ++ V.str (hexI (toI (l.getD i.toNat .undef))) :: List.replicate (nat_lit 0) (V.str [])).length = o.length + 1 := by simp
      refine .inl ⟨⟨l, i + 1, o ++ [.str (hexI (toI (l.getD i.toNat .undef)))]⟩, ?_, ⟨by dsimp only; omega, by dsimp only; omega, h2, by dsimp only; rw [List.length_append, List.length_singleton]; omega, h4⟩, by dsimp only; omega, leaf_eq ?_⟩
      · rw [ho]
        simp (disch := omega) only [dec_t, dec_f, inB_t, inC_t, andT_t, cond_true, cond_false, Bool.and_true, Bool.true_and, w64, wu32, wu8, nble_t, nblt_t, Bool.not_true, Bool.not_false, Bool.not_not, ieq_t, ieq_f, ine_t, ine_f, true_and, and_true, andT_l]
        rw [show jnSt ⟨l, i + 1, o ++ [.str (hexI (toI (l.getD i.toNat .undef)))]⟩ = adJnB l (i + 1) (o ++ [.str (hexI (toI (l.getD i.toNat .undef)))]) from if_neg (show ¬ i + 1 = 0 by omega)]
        rfl
      · unfold jnO
        dsimp only
        rw [jnL_cons (l := l) (i := i.toNat) (by omega), show (i + 1).toNat = i.toNat + 1 by omega]
        simp
    · refine .inr ⟨.exit 0, jnX1 o, ?_, nofun, ?_⟩
      · simp (disch := omega) only [dec_t, dec_f, inB_t, inC_t, andT_t, cond_true, cond_false, Bool.and_true, Bool.true_and, w64, wu32, wu8, nble_t, nblt_t, Bool.not_true, Bool.not_false, Bool.not_not, ieq_t, ieq_f, ine_t, ine_f, true_and, and_true, andT_l]
      · unfold jnO
        dsimp only
        rw [List.drop_of_length_le (by omega), show jnL [] = [] from rfl, List.append_nil]
        refine leaf_f ?_ .leaf
        cases o with
        | nil => simp at h3; omega
        | cons => rfl
theorem af_adJoin_ok : AllOk Tryd.prog 86 af_adJoin := .sums Tryd.func86 (by kernel_rfl) (by kernel_rfl) (by kernel_rfl) (by kernel_rfl) (sums_one (c := jnC) (ts := [6, 7, 8, 3]) (by kernel_rfl) (by kernel_rfl) jn_loop)
theorem adJoin_t (l : List V) : callV Eadj af_adJoin [.rows (.int .i64) l] =
 bif
 okG
 ((jnA l =
 if (0 : Int) = (0 : Int) then jnA l
 else
 { sl := [((6 : Nat), V.rows (Sh.int IntKind.i64) l), ((7 : Nat), V.int IntKind.i64 (↑l.length : Int)), ((8 : Nat), V.int IntKind.i64 (0 : Int)), ((3 : Nat), V.own (0 : Nat) (0 : Nat) Sh.str)], hp := [((0 : Nat), some (Blk.row (9 : Nat) Sh.str (V.rows Sh.str [])))], nx := (1 : Nat), ob := true, n := (20 : Nat) }) ∧
 jnI { l := l, i := (0 : Int), o := [] }) then
 bif
 match [] ++ jnL (List.drop (0 : Nat) l) with
 | [] => true
 | head :: tail => false then
 some (V.str (joinV [] [(58 : UInt8)]))
 else
 bif
 andT true
 (decide
 (([] ++ jnL (List.drop (0 : Nat) l)).length ≤ (140737488355328 : Nat) ∧
 (joinV ([] ++ jnL (List.drop (0 : Nat) l)) [(58 : UInt8)]).length ≤ (140737488355328 : Nat))) then
 some (V.str (joinV ([] ++ jnL (List.drop (0 : Nat) l)) [(58 : UInt8)]))
 else none
 else none := by kernel_rfl

theorem jnF_len (l : List V) : (jnF l).length ≤ 5 * l.length := by
  have hl : ∀ r : List V, Lib.lens ((jnL r).map toS) ≤ 4 * r.length := by
    intro r
    induction r with
    | nil => exact Nat.zero_le _
    | cons v r ih =>
      have := hexI_len (toI v)
      have e : Lib.lens ((jnL (v :: r)).map toS) = (hexI (toI v)).length + Lib.lens ((jnL r).map toS) := by simp [Lib.lens, jnL, toS]
      rw [e, List.length_cons]
      omega
  cases l with
  | nil => exact Nat.zero_le _
  | cons v r =>
    have e : jnF (v :: r) = Lib.join (hexI (toI v) :: (jnL r).map toS) [58] := rfl
    rw [e, Lib.join_length]
    have h1 := hl (v :: r)
    have e2 : Lib.lens ((jnL (v :: r)).map toS) = Lib.lens (hexI (toI v) :: (jnL r).map toS) := rfl
    rw [e2] at h1
    have h2 : ((jnL r).map toS).length = r.length := by simp [jnL]
    rw [h2]
    simp only [List.length_cons, List.length_nil] at *
    omega
theorem rg16_spec {l : List V} (h : rg16 l = true) : ∀ v ∈ l, 0 ≤ toI v ∧ toI v ≤ 65535 := fun v hv => of_decide_eq_true (List.all_eq_true.1 h v hv)
theorem adJoin_v (l : List V) (h : l.length ≤ 1000) (hr : rg16 l = true) : callV Eadj af_adJoin [.rows (.int .i64) l] = some (.str (jnF l)) := by
  rw [adJoin_t, okG_t ⟨(if_pos rfl).symm, Int.le_refl _, by dsimp only; omega, h, rfl, rg16_spec hr⟩]
  have hj := jnF_len l
  have e : [] ++ jnL (l.drop 0) = jnL l := by rw [List.drop_zero, List.nil_append]
  have hl : (jnL l).length = l.length := by simp [jnL]
  cases l with
  | nil => rfl
  | cons v r =>
    show (bif false then some (V.str (joinV [] [58])) else (bif andT true (decide (([] ++ jnL ((v :: r).drop 0)).length ≤ 140737488355328 ∧ (joinV ([] ++ jnL ((v :: r).drop 0)) [58]).length ≤ 140737488355328)) then some (V.str (joinV ([] ++ jnL ((v :: r).drop 0)) [58])) else none)) = _
    rw [cond_false, e, hl, dec_t ⟨by omega, by show (jnF (v :: r)).length ≤ _; omega⟩]
    rfl
def cAdJoin : List V → Option (V × Bool)
  | [.rows (.int .i64) l] => some (.str (jnF l), (decide (l.length ≤ 1000) && rg16 l))
  | _ => none
theorem adJoin_con : ∀ vs v, cAdJoin vs = some (v, true) → SpecV Tryd.prog 86 vs v := by
  intro vs v h; unfold cAdJoin at h; split at h
  · rename_i l
    injection h with h; injection h with h hb; subst h
    exact callV_ok Eadj_ok af_adJoin_ok ((by obtain ⟨h0, h1⟩ := (Bool.and_eq_true _ _).mp hb; exact adJoin_v _ (of_decide_eq_true h0) h1))
  · cases h
noncomputable def af_adText : AF := afOf Tryd.prog Tryd.f69 []
theorem af_adText_ok : AllOk Tryd.prog 69 af_adText := .flat Tryd.func69 (by kernel_rfl) (by kernel_rfl) (by kernel_rfl) (by kernel_rfl) (by kernel_rfl)
noncomputable def GEadt : List (Nat × Con) := [(84, .val [.barr 16] cAdWords), (85, .val [.arr 8 (.int .i64)] cAdRow), (86, .val [.rows (.int .i64)] cAdJoin)]
theorem GEadt_ok : GOk Tryd.prog GEadt := .cons (enters_of Tryd.func84 (by kernel_rfl) rfl) adWords_con <| .cons (enters_of Tryd.func85 (by kernel_rfl) rfl) adRow_con <| .cons (enters_of Tryd.func86 (by kernel_rfl) rfl) adJoin_con <| .nil
noncomputable def IEadt : List (Nat × AF) := []
theorem IEadt_ok : IOk Tryd.prog IEadt := .nil
noncomputable def CEadt : List (Nat × (List Nat × (S → Option (Bool × Tr)))) := []
theorem CEadt_ok : COk Tryd.prog CEadt := .nil
noncomputable def XEadt : List (Nat × (List Sh × (List V → PT))) := []
theorem XEadt_ok : XOk Tryd.prog XEadt := .nil
noncomputable def Eadt : Env := ⟨Tryd.prog, GEadt, IEadt, CEadt, XEadt⟩
theorem Eadt_ok : EnvOk Eadt := ⟨by kernel_rfl, GEadt_ok, IEadt_ok, CEadt_ok, XEadt_ok⟩
theorem adText_t (a : List UInt8) : callV Eadt af_adText [.barr 16 a] =
 bif decide ((rwF (wdL a) (0 : Int) (0 : Int) (0 : Int)).2 < (2 : Int)) then
 bif
 andT true
 (decide ((cutL (wdL a) (0 : Nat) (8 : Nat)).length ≤ (1000 : Nat)) &&
 rg16 (cutL (wdL a) (0 : Nat) (8 : Nat))) then
 some (V.str (jnF (cutL (wdL a) (0 : Nat) (8 : Nat))))
 else none
 else
 bif
 andT
 (andT
 (andT
 (andT
 (andT (andT true (Am.inC (rwF (wdL a) (0 : Int) (0 : Int) (0 : Int)).1 (8 : Nat)))
 (decide
 ((cutL (wdL a) (0 : Nat)
 ((0 : Nat) + ((rwF (wdL a) (0 : Int) (0 : Int) (0 : Int)).1.toNat - (0 : Nat)))).length ≤
 (1000 : Nat)) &&
 rg16
 (cutL (wdL a) (0 : Nat)
 ((0 : Nat) + ((rwF (wdL a) (0 : Int) (0 : Int) (0 : Int)).1.toNat - (0 : Nat))))))
 (((jnF
 (cutL (wdL a) (0 : Nat)
 ((0 : Nat) + ((rwF (wdL a) (0 : Int) (0 : Int) (0 : Int)).1.toNat - (0 : Nat))))).length +
 (2 : Nat)).ble
 (9223372036854775807 : Nat)))
 (Am.inC
 (IntKind.i64.wrap
 ((rwF (wdL a) (0 : Int) (0 : Int) (0 : Int)).1 + (rwF (wdL a) (0 : Int) (0 : Int) (0 : Int)).2))
 (8 : Nat)))
 (decide
 ((cutL (wdL a)
 (IntKind.i64.wrap
 ((rwF (wdL a) (0 : Int) (0 : Int) (0 : Int)).1 +
 (rwF (wdL a) (0 : Int) (0 : Int) (0 : Int)).2)).toNat
 ((IntKind.i64.wrap
 ((rwF (wdL a) (0 : Int) (0 : Int) (0 : Int)).1 +
 (rwF (wdL a) (0 : Int) (0 : Int) (0 : Int)).2)).toNat +
 ((8 : Nat) -
 (IntKind.i64.wrap
 ((rwF (wdL a) (0 : Int) (0 : Int) (0 : Int)).1 +
 (rwF (wdL a) (0 : Int) (0 : Int) (0 : Int)).2)).toNat))).length ≤
 (1000 : Nat)) &&
 rg16
 (cutL (wdL a)
 (IntKind.i64.wrap
 ((rwF (wdL a) (0 : Int) (0 : Int) (0 : Int)).1 +
 (rwF (wdL a) (0 : Int) (0 : Int) (0 : Int)).2)).toNat
 ((IntKind.i64.wrap
 ((rwF (wdL a) (0 : Int) (0 : Int) (0 : Int)).1 +
 (rwF (wdL a) (0 : Int) (0 : Int) (0 : Int)).2)).toNat +
 ((8 : Nat) -
 (IntKind.i64.wrap
 ((rwF (wdL a) (0 : Int) (0 : Int) (0 : Int)).1 +
 (rwF (wdL a) (0 : Int) (0 : Int) (0 : Int)).2)).toNat)))))
 (((jnF
 (cutL (wdL a) (0 : Nat)
 ((0 : Nat) + ((rwF (wdL a) (0 : Int) (0 : Int) (0 : Int)).1.toNat - (0 : Nat)))) ++
 [(58 : UInt8), (58 : UInt8)]).length +
 (jnF
 (cutL (wdL a)
 (IntKind.i64.wrap
 ((rwF (wdL a) (0 : Int) (0 : Int) (0 : Int)).1 +
 (rwF (wdL a) (0 : Int) (0 : Int) (0 : Int)).2)).toNat
 ((IntKind.i64.wrap
 ((rwF (wdL a) (0 : Int) (0 : Int) (0 : Int)).1 +
 (rwF (wdL a) (0 : Int) (0 : Int) (0 : Int)).2)).toNat +
 ((8 : Nat) -
 (IntKind.i64.wrap
 ((rwF (wdL a) (0 : Int) (0 : Int) (0 : Int)).1 +
 (rwF (wdL a) (0 : Int) (0 : Int) (0 : Int)).2)).toNat)))).length).ble
 (9223372036854775807 : Nat)) &&
 true then
 some
 (V.str
 (jnF
 (cutL (wdL a) (0 : Nat)
 ((0 : Nat) + ((rwF (wdL a) (0 : Int) (0 : Int) (0 : Int)).1.toNat - (0 : Nat)))) ++
 [(58 : UInt8), (58 : UInt8)] ++
 jnF
 (cutL (wdL a)
 (IntKind.i64.wrap
 ((rwF (wdL a) (0 : Int) (0 : Int) (0 : Int)).1 +
 (rwF (wdL a) (0 : Int) (0 : Int) (0 : Int)).2)).toNat
 ((IntKind.i64.wrap
 ((rwF (wdL a) (0 : Int) (0 : Int) (0 : Int)).1 +
 (rwF (wdL a) (0 : Int) (0 : Int) (0 : Int)).2)).toNat +
 ((8 : Nat) -
 (IntKind.i64.wrap
 ((rwF (wdL a) (0 : Int) (0 : Int) (0 : Int)).1 +
 (rwF (wdL a) (0 : Int) (0 : Int) (0 : Int)).2)).toNat)))))
 else none := by kernel_rfl

theorem rwF_rng : ∀ (l : List V) (i f n : Int), 0 ≤ f → 0 ≤ n → 0 ≤ i → f + n ≤ i + l.length → 0 ≤ (rwF l i f n).1 ∧ 0 ≤ (rwF l i f n).2 ∧ (rwF l i f n).1 + (rwF l i f n).2 ≤ i + l.length
  | [], i, f, n, h0, h1, _, h2 => ⟨h0, h1, h2⟩
  | v :: l, i, f, n, h0, h1, hi, h2 => by
    simp only [List.length_cons] at h2 ⊢
    have hz := zrF_le (v :: l)
    simp only [List.length_cons] at hz
    by_cases h : (zrF (v :: l) : Int) > n
    · rw [rwF_0 h]
      have := rwF_rng l (i + 1) i (zrF (v :: l)) hi (by omega) (by omega) (by omega)
      omega
    · rw [rwF_1 h]
      have := rwF_rng l (i + 1) f n h0 h1 (by omega) (by omega)
      omega
theorem wdI_rng (a : List UInt8) (i : Nat) : 0 ≤ wdI a i ∧ wdI a i ≤ 65535 := by
  have h1 := gt_lo a (2 * i); have h2 := gt_hi a (2 * i); have h3 := gt_lo a (2 * i + 1); have h4 := gt_hi a (2 * i + 1)
  unfold wdI
  omega
theorem rg16_wd (a : List UInt8) : rg16 (wdL a) = true := by
  unfold rg16 wdL
  simp only [List.all_cons, List.all_nil, toI, Bool.and_true, Bool.and_eq_true, decide_eq_true_eq]
  refine ⟨?_, ?_, ?_, ?_, ?_, ?_, ?_, ?_⟩ <;> exact decide_eq_true (wdI_rng a _)
theorem rg16_sub {l m : List V} (h : rg16 l = true) (hs : ∀ v ∈ m, v ∈ l) : rg16 m = true := List.all_eq_true.2 fun v hv => List.all_eq_true.1 h v (hs v hv)
/-- the text of numbers -/
def txF (w : List V) : List UInt8 := if (rwF w 0 0 0).2 < 2 then jnF w else jnF (w.take (rwF w 0 0 0).1.toNat) ++ [58, 58] ++ jnF (w.drop ((rwF w 0 0 0).1 + (rwF w 0 0 0).2).toNat)
def adT (a : List UInt8) : List UInt8 := txF (wdL a)
theorem adText_v (a : List UInt8) : callV Eadt af_adText [.barr 16 a] = some (.str (adT a)) := by
  rw [adText_t]
  obtain ⟨r0, r1, r2⟩ := rwF_rng (wdL a) 0 0 0 (by omega) (by omega) (by omega) (by rw [show (wdL a).length = 8 from rfl]; decide)
  rw [show (wdL a).length = 8 from rfl] at r2
  have hw := rg16_wd a
  unfold adT txF
  obtain ⟨w, hwd⟩ : ∃ w, wdL a = w := ⟨_, rfl⟩
  have hl : w.length = 8 := by rw [← hwd]; rfl
  rw [hwd] at r0 r1 r2 hw ⊢
  obtain ⟨f, hf⟩ : ∃ f, (rwF w 0 0 0).1 = f := ⟨_, rfl⟩
  obtain ⟨n, hn⟩ : ∃ n, (rwF w 0 0 0).2 = n := ⟨_, rfl⟩
  rw [hf] at r0 r2 ⊢
  rw [hn] at r1 r2 ⊢
  rw [w64 (x := f + n) (by omega) (by omega)]
  have e1 : cutL w 0 8 = w := by rw [cutL_zero, List.take_of_length_le (by omega)]
  have e2 : cutL w 0 (0 + (f.toNat - 0)) = w.take f.toNat := by rw [cutL_zero, Nat.zero_add, Nat.sub_zero]
  have e3 : cutL w (f + n).toNat ((f + n).toNat + (8 - (f + n).toNat)) = w.drop (f + n).toNat := by rw [show (f + n).toNat + (8 - (f + n).toNat) = w.length by omega, cutL_all]
  have g2 := rg16_sub hw (m := w.take f.toNat) fun v hv => List.mem_of_mem_take hv
  have g3 := rg16_sub hw (m := w.drop (f + n).toNat) fun v hv => List.mem_of_mem_drop hv
  have l2 := jnF_len (w.take f.toNat)
  have l3 := jnF_len (w.drop (f + n).toNat)
  have k2 : (w.take f.toNat).length ≤ 8 := by rw [List.length_take]; omega
  have k3 : (w.drop (f + n).toNat).length ≤ 8 := by rw [List.length_drop]; omega
  by_cases c : n < 2
  · rw [if_pos c, e1, hw]
    simp (disch := omega) only [dec_t, dec_f, inB_t, inC_t, andT_t, cond_true, cond_false, Bool.and_true, Bool.true_and, w64, wu32, wu8, nble_t, nblt_t, Bool.not_true, Bool.not_false, Bool.not_not, ieq_t, ieq_f, ine_t, ine_f, true_and, and_true, andT_l]
  · rw [if_neg c, e2, e3, g2, g3]
    simp only [List.length_append, List.length_cons, List.length_nil]
    simp (disch := omega) only [dec_t, dec_f, inB_t, inC_t, andT_t, cond_true, cond_false, Bool.and_true, Bool.true_and, w64, wu32, wu8, nble_t, nblt_t, Bool.not_true, Bool.not_false, Bool.not_not, ieq_t, ieq_f, ine_t, ine_f, true_and, and_true, andT_l]
def cAdText : List V → Option (V × Bool)
  | [.barr 16 a] => some (.str (adT a), true)
  | _ => none
theorem adText_con : ∀ vs v, cAdText vs = some (v, true) → SpecV Tryd.prog 69 vs v := by
  intro vs v h; unfold cAdText at h; split at h
  · rename_i a
    injection h with h; injection h with h hb; subst h
    exact callV_ok Eadt_ok af_adText_ok (adText_v _)
  · cases h
/-! ### the document's text -/
def rtA (w : List V) (b i : Int) : S := ⟨[(3, .ref 0 [] 0 (.arr 8 (.int .i64))), (4, .int .i64 b), (5, .int .i64 i)], znW w, 1, true, 71⟩
def rtX (w : List V) (b : Int) : S := ⟨[(3, .ref 0 [] 0 (.arr 8 (.int .i64))), (4, .int .i64 b)], znW w, 1, true, 71⟩
structure RtA where
  (w : List V)
  (b i : Int)
def rtAget (s : S) : RtA := ⟨toE (bkD s 0), toI (lkD s 4), toI (lkD s 5)⟩
def rtAI (x : RtA) : Prop := 1 ≤ x.i ∧ x.i ≤ 8 ∧ 0 ≤ x.b ∧ x.b < x.i ∧ x.w.length = 8
/-- where the longest row begins -/
def bsF : List V → List V → Int → Int → Int
  | _, [], _, b => b
  | w, v :: l, i, b => if (zrF (v :: l) : Int) > zrF (w.drop b.toNat) then bsF w l (i + 1) i else bsF w l (i + 1) b
def rtAO (x : RtA) : Tr := .leaf (.exit 0) (rtX x.w (bsF x.w (x.w.drop x.i.toNat) x.i x.b))
noncomputable def rtAG : S → Option (Bool × Tr) := gX rtAget (fun x => rtA x.w x.b x.i) rtAI rtAO
def rtB (w : List V) (b n : Int) (s : List UInt8) (i : Int) : S := ⟨[(3, .ref 0 [] 0 (.arr 8 (.int .i64))), (4, .int .i64 b), (6, .int .i64 n), (7, .str s), (8, .int .i64 i)], znW w, 1, true, 71⟩
def rtY (s : List UInt8) : S := ⟨[(7, .str s)], [], 0, true, 71⟩
structure RtB where
  (w : List V)
  (b n : Int)
  (s : List UInt8)
  (i : Int)
def rtBget (s : S) : RtB := ⟨toE (bkD s 0), toI (lkD s 4), toI (lkD s 6), toS (lkD s 7), toI (lkD s 8)⟩
def rtBI (x : RtB) : Prop := 0 ≤ x.i ∧ x.i ≤ 8 ∧ 0 ≤ x.b ∧ 0 ≤ x.n ∧ x.b + x.n ≤ 8 ∧ x.w.length = 8 ∧ rg16 x.w = true ∧ x.s.length ≤ 10 * x.i
/-- what comes at a place of a text -/
def rtP (w : List V) (b n i : Int) : List UInt8 := if 2 ≤ n ∧ b ≤ i ∧ i < b + n then (if i = b then [58, 58] else []) else (if 0 < i ∧ (n < 2 ∨ i ≠ b + n) then [58] else []) ++ hexI (toI (w.getD i.toNat .undef))
def adRtF (w : List V) (b n : Int) : Nat → Int → List UInt8
  | 0, _ => []
  | k + 1, i => rtP w b n i ++ adRtF w b n k (i + 1)
def rtBO (x : RtB) : Tr := .leaf (.exit 2) (rtY (x.s ++ adRtF x.w x.b x.n (8 - x.i).toNat x.i))
noncomputable def rtBG : S → Option (Bool × Tr) := gX rtBget (fun x => rtB x.w x.b x.n x.s x.i) rtBI rtBO
noncomputable def af_rAdText : AF := afOf Tryd.prog Tryd.f60 [.sum [3, 4, 5] [] rtAG, .sum [3, 4, 6, 7, 8] [] rtBG]
noncomputable def rtAC : AC := (af_rAdText.ac.sums.headD (.skip, [], [], fun _ => none)).1
noncomputable def rtBC : AC := (af_rAdText.ac.sums.tail.headD (.skip, [], [], fun _ => none)).1
noncomputable def GErt : List (Nat × Con) := [(70, .val [.barr 16] cAdWords), (71, .val [.arr 8 (.int .i64), .int .i64] cRAdZeros), (72, .val [.int .i64] cAdDigits)]
theorem GErt_ok : GOk Tryd.prog GErt := .cons (enters_of Tryd.func70 (by kernel_rfl) rfl) rAdWords_con <| .cons (enters_of Tryd.func71 (by kernel_rfl) rfl) rAdZeros_con <| .cons (enters_of Tryd.func72 (by kernel_rfl) rfl) rHex_con <| .nil
noncomputable def IErt : List (Nat × AF) := []
theorem IErt_ok : IOk Tryd.prog IErt := .nil
noncomputable def CErt : List (Nat × (List Nat × (S → Option (Bool × Tr)))) := []
theorem CErt_ok : COk Tryd.prog CErt := .nil
noncomputable def XErt : List (Nat × (List Sh × (List V → PT))) := []
theorem XErt_ok : XOk Tryd.prog XErt := .nil
noncomputable def Ert : Env := ⟨Tryd.prog, GErt, IErt, CErt, XErt⟩
theorem Ert_ok : EnvOk Ert := ⟨by kernel_rfl, GErt_ok, IErt_ok, CErt_ok, XErt_ok⟩
theorem rtA_b (w : List V) (b i : Int) : aev Ert (inlN Ert 6) rtAC (bodyF (Am.ways [3, 4, 5] [3, 4] []) []) (rtA w b i) =
 bif decide (i < (8 : Int)) then
 bif
 andT (andT true (decide (w.length = (8 : Nat) ∧ (0 : Int) ≤ i ∧ i ≤ (8 : Int))))
 (decide (w.length = (8 : Nat) ∧ (0 : Int) ≤ b ∧ b ≤ (8 : Int))) &&
 true then
 bif decide ((↑(zrF (List.drop i.toNat w)) : Int) > (↑(zrF (List.drop b.toNat w)) : Int)) then
 some (Ex.normal, rtA w i (IntKind.i64.wrap (i + (1 : Int))))
 else some (Ex.normal, rtA w b (IntKind.i64.wrap (i + (1 : Int))))
 else none
 else some (Ex.exit (0 : Nat), rtX w b) := by kernel_rfl

theorem rtB_b (w : List V) (b n : Int) (s : List UInt8) (i : Int) : aev Ert (inlN Ert 6) rtBC (bodyF (Am.ways [3, 4, 6, 7, 8] [7] []) []) (rtB w b n s i) =
 bif decide (i < (8 : Int)) then
 bif decide (n ≥ (2 : Int)) then
 bif decide (i ≥ b) then
 bif decide (i < IntKind.i64.wrap (b + n)) then
 bif i == b then
 bif andT true ((s.length + (2 : Nat)).ble (9223372036854775807 : Nat)) then
 some (Ex.normal, rtB w b n (s ++ [(58 : UInt8), (58 : UInt8)]) (IntKind.i64.wrap (i + (1 : Int))))
 else none
 else some (Ex.normal, rtB w b n s (IntKind.i64.wrap (i + (1 : Int))))
 else
 bif decide (i > (0 : Int)) then
 bif decide (n < (2 : Int)) then
 bif andT true ((s.length + (1 : Nat)).ble (9223372036854775807 : Nat)) then
 bif
 andT
 (andT (andT true (inB i (8 : Nat)))
 (decide
 ((0 : Int) ≤ toI (w.getD i.toNat V.undef) ∧ toI (w.getD i.toNat V.undef) ≤ (65535 : Int))))
 (((s ++ [(58 : UInt8)]).length + (hexI (toI (w.getD i.toNat V.undef))).length).ble
 (9223372036854775807 : Nat)) then
 some
 (Ex.normal,
 rtB w b n (s ++ [(58 : UInt8)] ++ hexI (toI (w.getD i.toNat V.undef)))
 (IntKind.i64.wrap (i + (1 : Int))))
 else none
 else none
 else
 bif i != IntKind.i64.wrap (b + n) then
 bif andT true ((s.length + (1 : Nat)).ble (9223372036854775807 : Nat)) then
 bif
 andT
 (andT (andT true (inB i (8 : Nat)))
 (decide
 ((0 : Int) ≤ toI (w.getD i.toNat V.undef) ∧ toI (w.getD i.toNat V.undef) ≤ (65535 : Int))))
 (((s ++ [(58 : UInt8)]).length + (hexI (toI (w.getD i.toNat V.undef))).length).ble
 (9223372036854775807 : Nat)) then
 some
 (Ex.normal,
 rtB w b n (s ++ [(58 : UInt8)] ++ hexI (toI (w.getD i.toNat V.undef)))
 (IntKind.i64.wrap (i + (1 : Int))))
 else none
 else none
 else
 bif
 andT
 (andT (andT true (inB i (8 : Nat)))
 (decide
 ((0 : Int) ≤ toI (w.getD i.toNat V.undef) ∧ toI (w.getD i.toNat V.undef) ≤ (65535 : Int))))
 ((s.length + (hexI (toI (w.getD i.toNat V.undef))).length).ble (9223372036854775807 : Nat)) then
 some
 (Ex.normal, rtB w b n (s ++ hexI (toI (w.getD i.toNat V.undef))) (IntKind.i64.wrap (i + (1 : Int))))
 else none
 else
 bif
 andT
 (andT (andT true (inB i (8 : Nat)))
 (decide ((0 : Int) ≤ toI (w.getD i.toNat V.undef) ∧ toI (w.getD i.toNat V.undef) ≤ (65535 : Int))))
 ((s.length + (hexI (toI (w.getD i.toNat V.undef))).length).ble (9223372036854775807 : Nat)) then
 some (Ex.normal, rtB w b n (s ++ hexI (toI (w.getD i.toNat V.undef))) (IntKind.i64.wrap (i + (1 : Int))))
 else none
 else
 bif decide (i > (0 : Int)) then
 bif decide (n < (2 : Int)) then
 bif andT true ((s.length + (1 : Nat)).ble (9223372036854775807 : Nat)) then
 bif
 andT
 (andT (andT true (inB i (8 : Nat)))
 (decide
 ((0 : Int) ≤ toI (w.getD i.toNat V.undef) ∧ toI (w.getD i.toNat V.undef) ≤ (65535 : Int))))
 (((s ++ [(58 : UInt8)]).length + (hexI (toI (w.getD i.toNat V.undef))).length).ble
 (9223372036854775807 : Nat)) then
 some
 (Ex.normal,
 rtB w b n (s ++ [(58 : UInt8)] ++ hexI (toI (w.getD i.toNat V.undef)))
 (IntKind.i64.wrap (i + (1 : Int))))
 else none
 else none
 else
 bif i != IntKind.i64.wrap (b + n) then
 bif andT true ((s.length + (1 : Nat)).ble (9223372036854775807 : Nat)) then
 bif
 andT
 (andT (andT true (inB i (8 : Nat)))
 (decide
 ((0 : Int) ≤ toI (w.getD i.toNat V.undef) ∧ toI (w.getD i.toNat V.undef) ≤ (65535 : Int))))
 (((s ++ [(58 : UInt8)]).length + (hexI (toI (w.getD i.toNat V.undef))).length).ble
 (9223372036854775807 : Nat)) then
 some
 (Ex.normal,
 rtB w b n (s ++ [(58 : UInt8)] ++ hexI (toI (w.getD i.toNat V.undef)))
 (IntKind.i64.wrap (i + (1 : Int))))
 else none
 else none
 else
 bif
 andT
 (andT (andT true (inB i (8 : Nat)))
 (decide
 ((0 : Int) ≤ toI (w.getD i.toNat V.undef) ∧ toI (w.getD i.toNat V.undef) ≤ (65535 : Int))))
 ((s.length + (hexI (toI (w.getD i.toNat V.undef))).length).ble (9223372036854775807 : Nat)) then
 some
 (Ex.normal, rtB w b n (s ++ hexI (toI (w.getD i.toNat V.undef))) (IntKind.i64.wrap (i + (1 : Int))))
 else none
 else
 bif
 andT
 (andT (andT true (inB i (8 : Nat)))
 (decide ((0 : Int) ≤ toI (w.getD i.toNat V.undef) ∧ toI (w.getD i.toNat V.undef) ≤ (65535 : Int))))
 ((s.length + (hexI (toI (w.getD i.toNat V.undef))).length).ble (9223372036854775807 : Nat)) then
 some (Ex.normal, rtB w b n (s ++ hexI (toI (w.getD i.toNat V.undef))) (IntKind.i64.wrap (i + (1 : Int))))
 else none
 else
 bif decide (i > (0 : Int)) then
 bif decide (n < (2 : Int)) then
 bif andT true ((s.length + (1 : Nat)).ble (9223372036854775807 : Nat)) then
 bif
 andT
 (andT (andT true (inB i (8 : Nat)))
 (decide ((0 : Int) ≤ toI (w.getD i.toNat V.undef) ∧ toI (w.getD i.toNat V.undef) ≤ (65535 : Int))))
 (((s ++ [(58 : UInt8)]).length + (hexI (toI (w.getD i.toNat V.undef))).length).ble
 (9223372036854775807 : Nat)) then
 some
 (Ex.normal,
 rtB w b n (s ++ [(58 : UInt8)] ++ hexI (toI (w.getD i.toNat V.undef)))
 (IntKind.i64.wrap (i + (1 : Int))))
 else none
 else none
 else
 bif i != IntKind.i64.wrap (b + n) then
 bif andT true ((s.length + (1 : Nat)).ble (9223372036854775807 : Nat)) then
 bif
 andT
 (andT (andT true (inB i (8 : Nat)))
 (decide
 ((0 : Int) ≤ toI (w.getD i.toNat V.undef) ∧ toI (w.getD i.toNat V.undef) ≤ (65535 : Int))))
 (((s ++ [(58 : UInt8)]).length + (hexI (toI (w.getD i.toNat V.undef))).length).ble
 (9223372036854775807 : Nat)) then
 some
 (Ex.normal,
 rtB w b n (s ++ [(58 : UInt8)] ++ hexI (toI (w.getD i.toNat V.undef)))
 (IntKind.i64.wrap (i + (1 : Int))))
 else none
 else none
 else
 bif
 andT
 (andT (andT true (inB i (8 : Nat)))
 (decide ((0 : Int) ≤ toI (w.getD i.toNat V.undef) ∧ toI (w.getD i.toNat V.undef) ≤ (65535 : Int))))
 ((s.length + (hexI (toI (w.getD i.toNat V.undef))).length).ble (9223372036854775807 : Nat)) then
 some (Ex.normal, rtB w b n (s ++ hexI (toI (w.getD i.toNat V.undef))) (IntKind.i64.wrap (i + (1 : Int))))
 else none
 else
 bif
 andT
 (andT (andT true (inB i (8 : Nat)))
 (decide ((0 : Int) ≤ toI (w.getD i.toNat V.undef) ∧ toI (w.getD i.toNat V.undef) ≤ (65535 : Int))))
 ((s.length + (hexI (toI (w.getD i.toNat V.undef))).length).ble (9223372036854775807 : Nat)) then
 some (Ex.normal, rtB w b n (s ++ hexI (toI (w.getD i.toNat V.undef))) (IntKind.i64.wrap (i + (1 : Int))))
 else none
 else some (Ex.exit (2 : Nat), rtY s) := by kernel_rfl

theorem rtA_loop : LoopOk Tryd.prog rtAC.erase [] rtAG := by
  refine loopX_ok Ert_ok (d := 6) (AC.flat_ok (by kernel_rfl)) (Am.ways [3, 4, 5] [3, 4] []) [] rtAget _ rtAO rtAI (fun x => (8 - x.i).toNat) (fun _ => rfl) ?_
  rintro ⟨w, b, i⟩ ⟨h0, h1, h2, h3, h4⟩
  simp only at h0 h1 h2 h3 h4 ⊢
  rw [rtA_b]
  unfold rtAO
  dsimp only
  by_cases hi : i < 8
  · have hd := drop_next (l := w) (i := i.toNat) (d := .undef) (by omega)
    have hk : (i + 1).toNat = i.toNat + 1 := by omega
    have d1 : decide (w.length = 8 ∧ 0 ≤ i ∧ i ≤ 8) = true := decide_eq_true (by omega)
    have d2 : decide (w.length = 8 ∧ 0 ≤ b ∧ b ≤ 8) = true := decide_eq_true (by omega)
    rw [d1, d2]
    by_cases hz : (zrF (w.drop i.toNat) : Int) > zrF (w.drop b.toNat)
    · refine .inl ⟨⟨w, i, i + 1⟩, ?_, ⟨by dsimp only; omega, by dsimp only; omega, by dsimp only; omega, by dsimp only; omega, h4⟩, by dsimp only; omega, leaf_eq ?_⟩
      · simp (disch := omega) only [dec_t, dec_f, inB_t, inC_t, andT_t, cond_true, cond_false, Bool.and_true, Bool.true_and, w64, wu32, wu8, nble_t, nblt_t, Bool.not_true, Bool.not_false, Bool.not_not, ieq_t, ieq_f, ine_t, ine_f, true_and, and_true, andT_l]
      · dsimp only
        rw [hk]
        rw [hd] at hz ⊢
        simp only [bsF]
        rw [if_pos hz]
    · refine .inl ⟨⟨w, b, i + 1⟩, ?_, ⟨by dsimp only; omega, by dsimp only; omega, by dsimp only; omega, by dsimp only; omega, h4⟩, by dsimp only; omega, leaf_eq ?_⟩
      · simp (disch := omega) only [dec_t, dec_f, inB_t, inC_t, andT_t, cond_true, cond_false, Bool.and_true, Bool.true_and, w64, wu32, wu8, nble_t, nblt_t, Bool.not_true, Bool.not_false, Bool.not_not, ieq_t, ieq_f, ine_t, ine_f, true_and, and_true, andT_l]
      · dsimp only
        rw [hk]
        rw [hd] at hz ⊢
        simp only [bsF]
        rw [if_neg hz]
  · refine .inr ⟨.exit 0, rtX w b, ?_, nofun, ?_⟩
    · simp (disch := omega) only [dec_t, dec_f, inB_t, inC_t, andT_t, cond_true, cond_false, Bool.and_true, Bool.true_and, w64, wu32, wu8, nble_t, nblt_t, Bool.not_true, Bool.not_false, Bool.not_not, ieq_t, ieq_f, ine_t, ine_f, true_and, and_true, andT_l]
    · rw [List.drop_of_length_le (by omega)]
      exact .leaf
theorem rtB_step (w : List V) (b n : Int) (s : List UInt8) (i : Int) (h : rtBI ⟨w, b, n, s, i⟩) (hi : i < 8) : aev Ert (inlN Ert 6) rtBC (bodyF (Am.ways [3, 4, 6, 7, 8] [7] []) []) (rtB w b n s i) = some (.normal, rtB w b n (s ++ rtP w b n i) (i + 1)) := by
  obtain ⟨h0, h1, h2, h3, h4, h5, h6, h7⟩ := h
  simp only at h0 h1 h2 h3 h4 h5 h6 h7
  have hl := hexI_len (toI (w.getD i.toNat .undef))
  have hr : 0 ≤ toI (w.getD i.toNat .undef) ∧ toI (w.getD i.toNat .undef) ≤ 65535 := by
    have hk : i.toNat < w.length := by omega
    rw [List.getD_eq_getElem?_getD, List.getElem?_eq_getElem hk]
    exact rg16_spec h6 _ (List.getElem_mem hk)
  obtain ⟨x, hx⟩ : ∃ x, toI (w.getD i.toNat .undef) = x := ⟨_, rfl⟩
  rw [rtB_b, w64 (x := b + n) (by omega) (by omega), w64 (x := i + 1) (by omega) (by omega)]
  unfold rtP
  rw [hx] at hl hr ⊢
  simp only [List.length_append, List.length_cons, List.length_nil]
  by_cases c1 : n ≥ 2 <;> by_cases c2 : i ≥ b <;> by_cases c3 : i < b + n <;> by_cases c4 : i = b <;> by_cases c5 : i > 0 <;> by_cases c6 : i = b + n
  all_goals first
    | (exfalso; omega)
    | (simp (disch := omega) only [dec_t, dec_f, inB_t, andT_t, cond_true, cond_false, Bool.and_true, Bool.true_and, nble_t, ieq_t, ieq_f, ine_t, ine_f, if_pos, if_neg, List.append_nil, List.nil_append, List.append_assoc]; try rfl)
theorem rtP_len (w : List V) (b n i : Int) : (rtP w b n i).length ≤ 5 := by
  unfold rtP
  have hl := hexI_len (toI (w.getD i.toNat .undef))
  split
  · split <;> simp
  · have : (if 0 < i ∧ (n < 2 ∨ i ≠ b + n) then [(58 : UInt8)] else []).length ≤ 1 := by split <;> simp
    rw [List.length_append]
    omega
theorem rtB_loop : LoopOk Tryd.prog rtBC.erase [] rtBG := by
  refine loopX_ok Ert_ok (d := 6) (AC.flat_ok (by kernel_rfl)) (Am.ways [3, 4, 6, 7, 8] [7] []) [] rtBget _ rtBO rtBI (fun x => (8 - x.i).toNat) (fun _ => rfl) ?_
  rintro ⟨w, b, n, s, i⟩ h
  have hh := h
  obtain ⟨h0, h1, h2, h3, h4, h5, h6, h7⟩ := h
  simp only at h0 h1 h2 h3 h4 h5 h6 h7
  by_cases hi : i < 8
  · have hp := rtP_len w b n i
    refine .inl ⟨⟨w, b, n, s ++ rtP w b n i, i + 1⟩, rtB_step w b n s i hh hi, ⟨by dsimp only; omega, by dsimp only; omega, h2, h3, h4, h5, h6, by dsimp only; rw [List.length_append]; omega⟩, by dsimp only; omega, leaf_eq ?_⟩
    unfold rtBO
    dsimp only
    rw [show (8 - i).toNat = (8 - (i + 1)).toNat + 1 by omega]
    simp only [adRtF, List.append_assoc]
  · refine .inr ⟨.exit 2, rtY s, ?_, nofun, ?_⟩
    · show aev Ert (inlN Ert 6) rtBC _ (rtB w b n s i) = _
      rw [rtB_b]
      simp (disch := omega) only [dec_t, dec_f, inB_t, inC_t, andT_t, cond_true, cond_false, Bool.and_true, Bool.true_and, w64, wu32, wu8, nble_t, nblt_t, Bool.not_true, Bool.not_false, Bool.not_not, ieq_t, ieq_f, ine_t, ine_f, true_and, and_true, andT_l]
    · unfold rtBO
      dsimp only
      rw [show (8 - i).toNat = 0 by omega]
      simp only [adRtF, List.append_nil]
      exact .leaf
theorem af_rAdText_ok : AllOk Tryd.prog 60 af_rAdText := .sums Tryd.func60 (by kernel_rfl) (by kernel_rfl) (by kernel_rfl) (by kernel_rfl) (sums_two (c := rtAC) (c2 := rtBC) (ts := [3, 4, 5]) (ts2 := [3, 4, 6, 7, 8]) (by kernel_rfl) (by kernel_rfl) rtA_loop rtB_loop)
theorem rAdText_t (a : List UInt8) : callV Ert af_rAdText [.barr 16 a] =
 bif
 okG
 (rtA (wdL a) (0 : Int) (1 : Int) = rtA (wdL a) (0 : Int) (1 : Int) ∧
 rtAI { w := wdL a, b := (0 : Int), i := (1 : Int) }) then
 bif
 andT true
 (decide
 ((wdL a).length = (8 : Nat) ∧
 (0 : Int) ≤ bsF (wdL a) (List.drop (1 : Nat) (wdL a)) (1 : Int) (0 : Int) ∧
 bsF (wdL a) (List.drop (1 : Nat) (wdL a)) (1 : Int) (0 : Int) ≤ (8 : Int))) then
 bif
 okG
 (rtB (wdL a) (bsF (wdL a) (List.drop (1 : Nat) (wdL a)) (1 : Int) (0 : Int))
 (↑(zrF (List.drop (bsF (wdL a) (List.drop (1 : Nat) (wdL a)) (1 : Int) (0 : Int)).toNat (wdL a))) :
 Int)
 [] (0 : Int) =
 rtB (wdL a) (bsF (wdL a) (List.drop (1 : Nat) (wdL a)) (1 : Int) (0 : Int))
 (Int.ofNat
 (zrF (List.drop (bsF (wdL a) (List.drop (1 : Nat) (wdL a)) (1 : Int) (0 : Int)).toNat (wdL a))))
 [] (0 : Int) ∧
 rtBI
 { w := wdL a, b := bsF (wdL a) (List.drop (1 : Nat) (wdL a)) (1 : Int) (0 : Int), n := Int.ofNat (zrF (List.drop (bsF (wdL a) (List.drop (1 : Nat) (wdL a)) (1 : Int) (0 : Int)).toNat (wdL a))), s := [], i := (0 : Int) }) then
 some
 (V.str
 ([] ++
 adRtF (wdL a) (bsF (wdL a) (List.drop (1 : Nat) (wdL a)) (1 : Int) (0 : Int))
 (Int.ofNat
 (zrF (List.drop (bsF (wdL a) (List.drop (1 : Nat) (wdL a)) (1 : Int) (0 : Int)).toNat (wdL a))))
 (8 : Nat) (0 : Int)))
 else none
 else none
 else none := by kernel_rfl

end Go.Proofs.YtpoeinajedbfoaaDoor

namespace Go.Proofs.YtpoeinajedbfoaaDoor
open Go Go.Am Go.RowKit Go.Mix Go.Bas
set_option maxRecDepth 100000
theorem bsF_rng (w : List V) : ∀ (l : List V) (i b : Int), 0 ≤ b → b < i → 0 ≤ bsF w l i b ∧ bsF w l i b < i + l.length
  | [], i, b, h0, h1 => ⟨h0, by simpa [bsF] using h1⟩
  | v :: l, i, b, h0, h1 => by
    simp only [bsF, List.length_cons]
    split
    · have := bsF_rng w l (i + 1) i (by omega) (by omega)
      omega
    · have := bsF_rng w l (i + 1) b h0 (by omega)
      omega
theorem rw_bs (w : List V) : ∀ (l : List V) (i b : Int), w.drop i.toNat = l → 0 ≤ i → 0 ≤ b → rwF l i b (zrF (w.drop b.toNat)) = (bsF w l i b, ((zrF (w.drop (bsF w l i b).toNat) : Nat) : Int))
  | [], i, b, _, _, _ => rfl
  | v :: l, i, b, h, h0, h1 => by
    have hn : w.drop (i + 1).toNat = l := by
      have e : w.drop (i + 1).toNat = (w.drop i.toNat).drop 1 := by rw [List.drop_drop, show (i + 1).toNat = i.toNat + 1 by omega]
      rw [e, h]; rfl
    by_cases c : (zrF (v :: l) : Int) > zrF (w.drop b.toNat)
    · rw [rwF_0 c]
      simp only [bsF]
      rw [if_pos c]
      have := rw_bs w l (i + 1) i hn (by omega) h0
      rw [h] at this
      exact this
    · rw [rwF_1 c]
      simp only [bsF]
      rw [if_neg c]
      exact rw_bs w l (i + 1) b hn (by omega) h1
/-- where the longest row begins, and how long it is -/
theorem rw_all {w : List V} (h : w.length = 8) : rwF w 0 0 0 = (bsF w (w.drop 1) 1 0, ((zrF (w.drop (bsF w (w.drop 1) 1 0).toNat) : Nat) : Int)) := by
  match w, h with
  | v :: l, h =>
    have := rw_bs (v :: l) l 1 0 rfl (by omega) (by omega)
    rw [show (0 : Int).toNat = 0 from rfl, List.drop_zero] at this
    rw [show (v :: l).drop 1 = l from rfl]
    by_cases c : (zrF (v :: l) : Int) > 0
    · rw [rwF_0 c]; exact this
    · rw [rwF_1 c]
      rw [show (zrF (v :: l) : Int) = 0 by omega] at this
      exact this
theorem list8 {l : List V} (h : l.length = 8) : ∃ a0 a1 a2 a3 a4 a5 a6 a7, l = [a0, a1, a2, a3, a4, a5, a6, a7] := by
  match l, h with
  | [a0, a1, a2, a3, a4, a5, a6, a7], _ => exact ⟨_, _, _, _, _, _, _, _, rfl⟩
theorem jnF_1 (v : V) : jnF [v] = hexI (toI v) := by simp [jnF, joinV, jnL, Lib.join, toS]
theorem jnF_c (v u : V) (l : List V) : jnF (v :: u :: l) = hexI (toI v) ++ ([58] ++ jnF (u :: l)) := by
  simp [jnF, joinV, jnL, Lib.join, toS, List.intercalate]
theorem jnF_0 : jnF [] = [] := rfl
theorem tx_none (a0 a1 a2 a3 a4 a5 a6 a7 : V) (f n : Int) (h : n < 2) : adRtF [a0, a1, a2, a3, a4, a5, a6, a7] f n 8 0 = jnF [a0, a1, a2, a3, a4, a5, a6, a7] := by
  have hp : ∀ (i : Int), rtP [a0, a1, a2, a3, a4, a5, a6, a7] f n i = (if 0 < i then [58] else []) ++ hexI (toI ([a0, a1, a2, a3, a4, a5, a6, a7].getD i.toNat .undef)) := by
    intro i
    unfold rtP
    rw [if_neg (by omega)]
    by_cases c : 0 < i
    · rw [if_pos ⟨c, .inl h⟩, if_pos c]
    · rw [if_neg (by omega), if_neg c]
  simp only [adRtF, hp, jnF_c, jnF_1]
  simp
theorem tx_some (a0 a1 a2 a3 a4 a5 a6 a7 : V) : ∀ f n : Nat, 2 ≤ n → f + n ≤ 8 → adRtF [a0, a1, a2, a3, a4, a5, a6, a7] f n 8 0 = jnF ([a0, a1, a2, a3, a4, a5, a6, a7].take f) ++ [58, 58] ++ jnF ([a0, a1, a2, a3, a4, a5, a6, a7].drop (f + n)) := by
  intro f n h1 h2
  have hf : f ≤ 6 := by omega
  rcases (by omega : f = 0 ∨ f = 1 ∨ f = 2 ∨ f = 3 ∨ f = 4 ∨ f = 5 ∨ f = 6) with rfl | rfl | rfl | rfl | rfl | rfl | rfl
  · rcases (by omega : n = 2 ∨ n = 3 ∨ n = 4 ∨ n = 5 ∨ n = 6 ∨ n = 7 ∨ n = 8) with rfl | rfl | rfl | rfl | rfl | rfl | rfl
    all_goals simp [adRtF, rtP, jnF_c, jnF_1, jnF_0]
  · rcases (by omega : n = 2 ∨ n = 3 ∨ n = 4 ∨ n = 5 ∨ n = 6 ∨ n = 7) with rfl | rfl | rfl | rfl | rfl | rfl
    all_goals simp [adRtF, rtP, jnF_c, jnF_1, jnF_0]
  · rcases (by omega : n = 2 ∨ n = 3 ∨ n = 4 ∨ n = 5 ∨ n = 6) with rfl | rfl | rfl | rfl | rfl
    all_goals simp [adRtF, rtP, jnF_c, jnF_1, jnF_0]
  · rcases (by omega : n = 2 ∨ n = 3 ∨ n = 4 ∨ n = 5) with rfl | rfl | rfl | rfl
    all_goals simp [adRtF, rtP, jnF_c, jnF_1, jnF_0]
  · rcases (by omega : n = 2 ∨ n = 3 ∨ n = 4) with rfl | rfl | rfl
    all_goals simp [adRtF, rtP, jnF_c, jnF_1, jnF_0]
  · rcases (by omega : n = 2 ∨ n = 3) with rfl | rfl
    all_goals simp [adRtF, rtP, jnF_c, jnF_1, jnF_0]
  · obtain rfl : n = 2 := by omega
    simp [adRtF, rtP, jnF_c, jnF_1, jnF_0]
theorem tx_all {w : List V} (h : w.length = 8) : adRtF w (bsF w (w.drop 1) 1 0) (zrF (w.drop (bsF w (w.drop 1) 1 0).toNat)) 8 0 = txF w := by
  unfold txF
  have hr := rwF_rng w 0 0 0 (by omega) (by omega) (by omega) (by omega)
  rw [rw_all h] at hr ⊢
  simp only at hr ⊢
  obtain ⟨f, hf⟩ := Int.eq_ofNat_of_zero_le hr.1
  have h3 := hr.2.2
  rw [hf] at h3 ⊢
  simp only [Int.toNat_natCast] at h3 ⊢
  obtain ⟨n, hn⟩ : ∃ n, zrF (w.drop f) = n := ⟨_, rfl⟩
  rw [hn] at h3 ⊢
  obtain ⟨a0, a1, a2, a3, a4, a5, a6, a7, rfl⟩ := list8 h
  by_cases c : (n : Int) < 2
  · rw [if_pos c, tx_none _ _ _ _ _ _ _ _ _ _ c]
  · rw [if_neg c, tx_some _ _ _ _ _ _ _ _ f n (by omega) (by omega), show ((f : Int) + n).toNat = f + n by omega]
theorem rAdText_v (a : List UInt8) : callV Ert af_rAdText [.barr 16 a] = some (.str (adT a)) := by
  rw [rAdText_t]
  have hw := rg16_wd a
  have hl : (wdL a).length = 8 := rfl
  unfold adT
  obtain ⟨w, hwd⟩ : ∃ w, wdL a = w := ⟨_, rfl⟩
  rw [hwd] at hw hl ⊢
  have hb := bsF_rng w (w.drop 1) 1 0 (by omega) (by omega)
  rw [List.length_drop, hl] at hb
  have ht := tx_all hl
  obtain ⟨b, hbb⟩ : ∃ b, bsF w (w.drop 1) 1 0 = b := ⟨_, rfl⟩
  rw [hbb] at hb ht ⊢
  have hz := zrF_le (w.drop b.toNat)
  rw [List.length_drop] at hz
  rw [okG_t ⟨rfl, by show (1 : Int) ≤ 1; omega, by show (1 : Int) ≤ 8; omega, by show (0 : Int) ≤ 0; omega, by show (0 : Int) < 1; omega, hl⟩]
  rw [okG_t ⟨rfl, by show (0 : Int) ≤ 0; omega, by show (0 : Int) ≤ 8; omega, by dsimp only; omega, by show (0 : Int) ≤ ((zrF (w.drop b.toNat) : Nat) : Int); omega, by show b + ((zrF (w.drop b.toNat) : Nat) : Int) ≤ 8; omega, hl, hw, by show (0 : Int) ≤ 10 * 0; omega⟩]
  have d : decide (w.length = 8 ∧ 0 ≤ b ∧ b ≤ 8) = true := decide_eq_true (by omega)
  rw [d, List.nil_append]
  show some (V.str (adRtF w b ((zrF (w.drop b.toNat) : Nat) : Int) 8 0)) = _
  rw [ht]
theorem rAdText_con : ∀ vs v, cAdText vs = some (v, true) → SpecV Tryd.prog 60 vs v := by
  intro vs v h; unfold cAdText at h; split at h
  · rename_i a
    injection h with h; injection h with h hb; subst h
    exact callV_ok Ert_ok af_rAdText_ok (rAdText_v _)
  · cases h
end Go.Proofs.YtpoeinajedbfoaaDoor
