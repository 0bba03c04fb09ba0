/- An abstract machine, first part: its values, its memory, what its operations do. Nothing is proved here. -/
import Derived.Test.YthbllfhaaidhjaaFlat
namespace Go.Am
open Go Go.RowKit Go.Bas

inductive NK where
  | ptr | func | iface | map
  deriving DecidableEq, Inhabited
/-- the shape of a variable -/
inductive Sh where
  | int (k : IntKind) | bool | str | bytes | other (k : NK)
  | rows (e : Sh)
  | barr (n : Nat)
  | arr (n : Nat) (e : Sh)
  | agg (l : List Sh)
  deriving Inhabited

inductive Step where
  | fld (j : Nat)
  | idx (i : Nat)

/-- values: 'bytes', 'rows': what a slice reads as; 'own': a slice over a whole row of the call's own; 'ref': a variable of the call's own -/
inductive V where
  | int (k : IntKind) (n : Int)
  | bool (b : Bool)
  | str (l : List UInt8)
  | nils
  | bytes (l : List UInt8)
  | rows (e : Sh) (l : List V)
  | barr (n : Nat) (l : List UInt8)
  | arr (e : Sh) (n : Nat) (l : List V)
  | agg (l : List V)
  | tup (l : List V)
  | ref (id : Nat) (p : List Step) (off : Nat) (sh : Sh)
  | vref (sh : Sh) (v : V)
  | own (id : Nat) (n : Nat) (sh : Sh)
  | ownv (T : TypeId) (v : V)
  | fn (f : FuncId) (first caps : List V)
  | nil (k : NK)
  | void
  | undef
  deriving Inhabited

inductive Blk where
  | var (sh : Sh) (v : V)
  | row (T : TypeId) (sh : Sh) (v : V)
  | view (v : V)

structure S where
  sl : List (Nat × V)
  hp : List (Nat × Option Blk)
  nx : Nat
  ob : Bool
  n : Nat

/-! ### lists -/
def look {α : Type} : List (Nat × α) → Nat → Option α
  | [], _ => none
  | (a, v) :: r, t => bif Nat.beq a t then some v else look r t
def lookH : List (Nat × Option Blk) → Nat → Option Blk
  | [], _ => none
  | (a, v) :: r, t => bif Nat.beq a t then v else lookH r t
def nthL {α : Type} : List α → Nat → Option α
  | [], _ => none
  | x :: _, 0 => some x
  | _ :: l, i + 1 => nthL l i
def setL {α : Type} : List α → Nat → α → List α
  | [], _, _ => []
  | _ :: l, 0, y => y :: l
  | x :: l, i + 1, y => x :: setL l i y
def mapO {α β : Type} (f : α → Option β) : List α → Option (List β)
  | [] => some []
  | x :: l => match f x with
    | some y => match mapO f l with
      | some r => some (y :: r)
      | none => none
    | none => none

/-! ### shapes -/
mutual
def Sh.size : Sh → Nat
  | .barr n => n
  | .arr n e => n * e.size
  | .agg l => Sh.sizes l
  | .int _ | .bool | .str | .bytes | .other _ | .rows _ => 1
def Sh.sizes : List Sh → Nat
  | [] => 0
  | s :: r => s.size + Sh.sizes r
end
def Sh.isAgg : Sh → Bool
  | .barr _ | .arr _ _ | .agg _ => true
  | _ => false
def shOf (P : Program) : Nat → TypeId → Option Sh
  | 0, _ => none
  | d + 1, t => match P.underlying t with
    | some (.int k) => some (.int k)
    | some .bool => some .bool
    | some .string => some .str
    | some (.slice e) => match shOf P d e with
      | some (.int .u8) => some .bytes
      | some s => some (.rows s)
      | none => none
    | some (.array n e) => match shOf P d e with
      | some (.int .u8) => some (.barr n)
      | some s => some (.arr n s)
      | none => none
    | some (.struct fs) => (mapO (fun f => shOf P d f.type) fs.toList).map .agg
    | some (.pointer _) => some (.other .ptr)
    | some (.map _ _) => some (.other .map)
    | some (.func _ _ _) => some (.other .func)
    | some (.interface _) => some (.other .iface)
    | _ => none

/-! ### reading and writing parts -/
def toI : V → Int | .int _ n => n | _ => 0
def toB : V → Bool | .bool b => b | _ => false
def toS : V → List UInt8 | .str l => l | _ => []
def toL : V → List UInt8 | .bytes l => l | _ => []
def toR : V → List V | .rows _ l => l | _ => []
def toA : V → List UInt8 | .barr _ l => l | _ => []
def toE : V → List V | .arr _ _ l => l | _ => []
def toG : V → List V | .agg l => l | _ => []
/- the same value, in the form that its shape has -/
mutual
def eta : Sh → V → V
  | .int k, v => .int k (toI v)
  | .bool, v => .bool (toB v)
  | .str, v => .str (toS v)
  | .bytes, v => .bytes (toL v)
  | .rows e, v => .rows e (toR v)
  | .barr n, v => .barr n (toA v)
  | .arr n e, v => .arr e n (toE v)
  | .agg l, v => .agg (etas l (toG v))
  | .other _, v => v
def etas : List Sh → List V → List V
  | [], _ => []
  | s :: r, l => eta s (l.headD .undef) :: etas r l.tail
end
def u8 (x : Int) : UInt8 := UInt8.ofNat x.toNat
/- are two shapes the same? -/
mutual
def Sh.beq : Sh → Sh → Bool
  | .int k, .int k' => decide (k = k')
  | .bool, .bool | .str, .str | .bytes, .bytes => true
  | .other k, .other k' => decide (k = k')
  | .rows e, .rows f => Sh.beq e f
  | .barr n, .barr m => Nat.beq n m
  | .arr n e, .arr m f => Nat.beq n m && Sh.beq e f
  | .agg l, .agg m => Sh.beqs l m
  | _, _ => false
def Sh.beqs : List Sh → List Sh → Bool
  | [], [] => true
  | a :: l, b :: m => Sh.beq a b && Sh.beqs l m
  | _, _ => false
end
/- a value of a shape, that points to nothing of the call's own -/
mutual
def isR : Sh → V → Bool
  | .int k, .int k' _ => decide (k = k')
  | .bool, .bool _ => true
  | .str, .str _ => true
  | .bytes, .bytes _ => true
  | .rows e, .rows f _ => Sh.beq e f
  | .barr n, .barr m _ => Nat.beq n m
  | .arr n e, .arr f m _ => Nat.beq n m && Sh.beq e f
  | .agg ss, .agg l => isRs ss l
  | _, _ => false
def isRs : List Sh → List V → Bool
  | [], [] => true
  | s :: r, v :: l => isR s v && isRs r l
  | _, _ => false
end
/- a value of a shape: a slice may be nil, or of the call's own -/
mutual
def isSh : Sh → V → Bool
  | .int k, .int k' _ => decide (k = k')
  | .bool, .bool _ => true
  | .str, .str _ => true
  | .bytes, .bytes _ => true
  | .bytes, .nils => true
  | .bytes, .own _ _ s => Sh.beq s (.int .u8)
  | .rows e, .rows f _ => Sh.beq e f
  | .rows _, .nils => true
  | .rows e, .own _ _ s => Sh.beq e s
  | .barr n, .barr m _ => Nat.beq n m
  | .arr n e, .arr f m _ => Nat.beq n m && Sh.beq e f
  | .agg ss, .agg l => isShs ss l
  | .other .ptr, .ref _ _ _ _ => true
  | .other .func, .fn _ _ _ => true
  | .other k, .nil k' => decide (k = k')
  | _, _ => false
def isShs : List Sh → List V → Bool
  | [], [] => true
  | s :: r, v :: l => isSh s v && isShs r l
  | _, _ => false
end
/-- the part at a path -/
def getP : V → List Step → Option V
  | v, [] => some v
  | .agg l, .fld j :: p => match nthL l j with
    | some x => getP x p
    | none => none
  | .barr _ l, [.idx i] => some (.int .u8 (gt l i))
  | .bytes l, [.idx i] => some (.int .u8 (gt l i))
  | .arr e _ l, .idx i :: p => getP (eta e (l.getD i .undef)) p
  | .rows e l, .idx i :: p => getP (eta e (l.getD i .undef)) p
  | _, _ => none
def setP : V → List Step → V → Option V
  | _, [], x => some x
  | .agg l, .fld j :: p, x => match nthL l j with
    | some y => match setP y p x with
      | some z => some (.agg (setL l j z))
      | none => none
    | none => none
  | .barr n l, [.idx i], .int .u8 x => some (.barr n (l.set i (u8 x)))
  | .bytes l, [.idx i], .int .u8 x => some (.bytes (l.set i (u8 x)))
  | .arr e n l, .idx i :: p, x => match setP (eta e (l.getD i .undef)) p x with
    | some z => bif isR e z then some (.arr e n (l.set i z)) else none
    | none => none
  | .rows e l, .idx i :: p, x => match setP (eta e (l.getD i .undef)) p x with
    | some z => bif isR e z then some (.rows e (l.set i z)) else none
    | none => none
  | _, _, _ => none
mutual
def zeroR : Sh → V
  | .int k => .int k 0
  | .bool => .bool false
  | .str => .str []
  | .bytes => .bytes []
  | .rows e => .rows e []
  | .barr n => .barr n (List.replicate n 0)
  | .arr n e => .arr e n (List.replicate n (zeroR e))
  | .agg l => .agg (zeroRs l)
  | .other k => .nil k
def zeroRs : List Sh → List V
  | [] => []
  | s :: r => zeroR s :: zeroRs r
end
mutual
def zeroV : Sh → V
  | .bytes => .nils
  | .rows _ => .nils
  | .agg l => .agg (zeroVs l)
  | s => zeroR s
def zeroVs : List Sh → List V
  | [] => []
  | s :: r => zeroV s :: zeroVs r
end
/- the zero value, cell by cell -/
mutual
def zeroC : Sh → List Value
  | .int k => [.int k 0]
  | .bool => [.bool false]
  | .str => [.string ⟨#[]⟩]
  | .bytes => [.slice none 0 0]
  | .rows _ => [.slice none 0 0]
  | .barr n => List.replicate n (.int .u8 0)
  | .arr n e => (List.replicate n (zeroC e)).flatten
  | .agg l => zeroCs l
  | .other .ptr => [.pointer none]
  | .other .func => [.nilFunc]
  | .other .iface => [.nilIface]
  | .other .map => [.map none]
def zeroCs : List Sh → List Value
  | [] => []
  | s :: r => zeroC s ++ zeroCs r
end
def eqC : List Value → List Value → Bool
  | [], [] => true
  | .int k n :: l, .int k' m :: r => decide (k = k') && decide (n = m) && eqC l r
  | .bool a :: l, .bool b :: r => (a == b) && eqC l r
  | .string a :: l, .string b :: r => a.data.toList.isEmpty && b.data.toList.isEmpty && eqC l r
  | .slice none 0 0 :: l, .slice none 0 0 :: r => eqC l r
  | .pointer none :: l, .pointer none :: r => eqC l r
  | .nilFunc :: l, .nilFunc :: r => eqC l r
  | .nilIface :: l, .nilIface :: r => eqC l r
  | .map none :: l, .map none :: r => eqC l r
  | _, _ => false
/- arrays hold what points to nothing -/
mutual
def zGood : Sh → Bool
  | .arr _ e => isR e (zeroR e) && zGood e
  | .agg l => zGoods l
  | _ => true
def zGoods : List Sh → Bool
  | [] => true
  | s :: r => zGood s && zGoods r
end
/-- the zero value of a type is that of its shape -/
def zOk (P : Program) (t : TypeId) (sh : Sh) : Bool :=
  match P.info? t with
  | some i => match i.zero with
    | some z => zGood sh && eqC z.cells.toList (zeroC sh) && (match z with | .agg _ => sh.isAgg | _ => !sh.isAgg)
    | none => false
  | none => false

def depth : Nat := 8

/-! ### operations -/
structure Res where
  v : V
  ob : Bool
  wr : List (Nat × Option Blk)
def pureR (v : V) : Option Res := some ⟨v, true, []⟩

def cmpI (op : BinOp) (a b : Int) : Option V :=
  match op with
  | .eql => some (.bool (a == b))
  | .neq => some (.bool (a != b))
  | .lss => some (.bool (decide (a < b)))
  | .leq => some (.bool (decide (a ≤ b)))
  | .gtr => some (.bool (decide (a > b)))
  | .geq => some (.bool (decide (a ≥ b)))
  | _ => none
def binI (op : BinOp) (k : IntKind) (a b : Int) : Option Res :=
  match op with
  | .add => pureR (.int k (k.wrap (a + b)))
  | .sub => pureR (.int k (k.wrap (a - b)))
  | .mul => pureR (.int k (k.wrap (a * b)))
  | .quo => some ⟨.int k (k.wrap (a.tdiv b)), b != 0, []⟩
  | .rem => some ⟨.int k (a.tmod b), b != 0, []⟩
  | .and | .or | .xor | .andNot => pureR (.int k (bits op k a b))
  | op => (cmpI op a b).map fun v => ⟨v, true, []⟩
def shI (op : BinOp) (k : IntKind) (a b : Int) : Option Res :=
  match op with
  | .shl => some ⟨.int k (k.wrap (a * 2 ^ (min b.toNat k.bits))), decide (0 ≤ b), []⟩
  | .shr => some ⟨.int k (a.fdiv (2 ^ (min b.toNat k.bits))), decide (0 ≤ b), []⟩
  | _ => none
def binS (op : BinOp) (a b : List UInt8) : Option Res :=
  match op with
  | .add => some ⟨.str (a ++ b), Nat.ble (a.length + b.length) 9223372036854775807, []⟩
  | .eql => pureR (.bool (a == b))
  | .neq => pureR (.bool (!(a == b)))
  | .lss => pureR (.bool (Op.bytesLess a b))
  | .leq => pureR (.bool (Op.bytesLess a b || a == b))
  | .gtr => pureR (.bool (!(Op.bytesLess a b || a == b)))
  | .geq => pureR (.bool (!Op.bytesLess a b))
  | _ => none
/- values made of integers, bools and strings alone: are they the same? -/
mutual
def eqV : V → V → Option Bool
  | .int k a, .int k' b => bif decide (k = k') then some (a == b) else none
  | .bool a, .bool b => some (a == b)
  | .str a, .str b => some (a == b)
  | .barr n a, .barr m b => bif Nat.beq n m then some (a == b) else none
  | .agg a, .agg b => eqVs a b
  | _, _ => none
def eqVs : List V → List V → Option Bool
  | [], [] => some true
  | x :: a, y :: b => match eqV x y with
    | some p => match eqVs a b with
      | some q => some (p && q)
      | none => none
    | none => none
  | _, _ => none
end
def V.isAgg : V → Bool
  | .barr _ _ | .arr _ _ _ | .agg _ => true
  | _ => false
/- the kinds of the integers that a value is made of -/
mutual
def kindsV : V → Option (List IntKind)
  | .int k _ => some [k]
  | .barr n _ => some (List.replicate n .u8)
  | .agg l => kindsVs l
  | _ => none
def kindsVs : List V → Option (List IntKind)
  | [] => some []
  | v :: l => match kindsV v with
    | some a => match kindsVs l with
      | some b => some (a ++ b)
      | none => none
    | none => none
end
def eqK : List IntKind → List IntKind → Bool
  | [], [] => true
  | a :: l, b :: m => decide (a = b) && eqK l m
  | _, _ => false
def eqT (P : Program) (t : TypeId) (x y : V) : Option Bool :=
  match x, y with
  | .bool a, .bool b => match P.underlying t with
    | some .bool => some (a == b)
    | _ => none
  | x, y => match flat P depth t, kindsV x, kindsV y with
    | some ks, some kx, some ky => bif eqK ks kx && eqK ks ky && x.isAgg && y.isAgg && !P.eqGuardType P.depth t && (match P.underlying t with | some (.struct _) | some (.array _ _) => true | _ => false) then eqV x y else none
    | _, _, _ => none
def binV (P : Program) (t : TypeId) (op : BinOp) (x y : V) : Option Res :=
  match op, x, y with
  | .shl, .int k a, .int _ b => shI .shl k a b
  | .shr, .int k a, .int _ b => shI .shr k a b
  | op, .int k a, .int k' b => bif decide (k = k') then binI op k a b else none
  | op, .str a, .str b => binS op a b
  | .eql, x, y => (eqT P t x y).map fun b => ⟨.bool b, true, []⟩
  | .neq, x, y => (eqT P t x y).map fun b => ⟨.bool (!b), true, []⟩
  | _, _, _ => none
def unV (op : UnOp) (x : V) : Option Res :=
  match op, x with
  | .neg, .int k n => pureR (.int k (k.wrap (0 - n)))
  | .xor, .int k n => pureR (.int k (bits .xor k (if k.signed then -1 else k.max) n))
  | .not, .bool b => pureR (.bool (!b))
  | _, _ => none
def pickV (c : Bool) (a b : V) : Option V :=
  match a, b with
  | .int k x, .int k' y => bif decide (k = k') then some (.int k (bif c then x else y)) else none
  | .bool x, .bool y => some (.bool (bif c then x else y))
  | a, b => bif c then some a else some b

/-- struct fields lie where the shape says -/
def fldOff : List Sh → Nat → Nat
  | [], _ => 0
  | _, 0 => 0
  | s :: r, j + 1 => s.size + fldOff r j
def szOk (P : Program) (t : TypeId) (sh : Sh) : Bool :=
  match P.info? t with
  | some i => Nat.beq i.size sh.size && Nat.blt 0 i.size
  | none => false
def offOk (P : Program) (t : TypeId) (ss : List Sh) (j : Nat) : Bool :=
  match P.underlying t with
  | some (.struct fs) => match fs[j]?, nthL ss j with
    | some f, some s => Nat.beq f.offset (fldOff ss j) && szOk P f.type s
    | _, _ => false
  | _ => false
def fldTy (P : Program) (t : TypeId) (j : Nat) : TypeId :=
  match P.underlying t with
  | some (.struct fs) => match fs[j]? with
    | some f => f.type
    | none => 0
  | _ => 0
def ixOkS (P : Program) (t : TypeId) (sh : Sh) : Bool :=
  match P.underlying t with
  | some (.slice e) => szOk P e sh
  | _ => false
def ixOkA (P : Program) (t : TypeId) (n : Nat) (sh : Sh) : Bool :=
  match P.underlying t with
  | some (.array m e) => Nat.beq m n && szOk P e sh
  | _ => false
def elTy (P : Program) (t : TypeId) : TypeId :=
  match P.underlying t with
  | some (.array _ e) => e
  | some (.slice e) => e
  | _ => 0
/-- of what a slice is: the type, the bytes and the cells of an element -/
def elOf (P : Program) (t : TypeId) (sh : Sh) : Option (TypeId × Nat) :=
  match P.underlying t with
  | some (.slice e) => match P.info? e with
    | some i => match i.zero with
      | some z => bif Nat.beq i.size sh.size && Nat.beq z.cells.size sh.size && Nat.blt 0 i.size && Nat.blt 0 i.bytes then some (e, i.bytes) else none
      | none => none
    | none => none
  | _ => none
/-- a variable of type t has this shape, as far as a load or store sees -/
def ldOk (P : Program) (t : TypeId) (sh : Sh) : Bool :=
  match P.info? t with
  | some i => Nat.beq i.size sh.size && (match P.underlying t with
    | some (.struct _) | some (.array _ _) => sh.isAgg
    | some _ => !sh.isAgg
    | none => false)
  | none => false
def contV : Blk → V
  | .var _ v => v
  | .row _ _ v => v
  | .view v => v
def lenV : V → Option Nat
  | .bytes l => some l.length
  | .rows _ l => some l.length
  | .own _ n _ => some n
  | .str l => some l.length
  | .barr n _ => some n
  | .arr _ n _ => some n
  | .nils => some 0
  | _ => none
def inB (i : Int) (n : Nat) : Bool := decide (0 ≤ i) && decide (i < (n : Int))
def inC (i : Int) (n : Nat) : Bool := decide (0 ≤ i) && decide (i ≤ (n : Int))
/-- the content of a slice -/
def sliceC (hp : Nat → Option Blk) : V → Option V
  | .nils => some (.bytes [])
  | .bytes l => some (.bytes l)
  | .rows e l => some (.rows e l)
  | .str l => some (.bytes l)
  | .own id _ _ => (hp id).map contV
  | _ => none
def appC : V → V → Option V
  | .bytes a, .bytes b => some (.bytes (a ++ b))
  | .rows e a, .rows f b => bif Sh.beq e f then some (.rows e (a ++ b)) else none
  | .rows e a, .bytes [] => some (.rows e a)
  | _, _ => none
def appV (hp : Nat → Option Blk) (x y : V) : Option V :=
  match sliceC hp y with
  | some b => match x with
    | .nils => some b
    | .own id _ _ => match hp id with
      | some (.row _ _ a) => appC a b
      | _ => none
    | _ => none
  | none => none
def isSl : V → Bool
  | .str _ => false
  | _ => true
def lenC : V → Nat
  | .bytes l => l.length
  | .rows _ l => l.length
  | _ => 0
def isRow : V → Bool
  | .bytes _ | .rows _ _ => true
  | _ => false
def elSh : V → Sh
  | .rows e _ => e
  | _ => .int .u8
/- by value, for who is called -/
mutual
def low (hp : Nat → Option Blk) : Sh → V → Option V
  | .bytes, .nils => some (.bytes [])
  | .rows e, .nils => some (.rows e [])
  | _, .own id _ _ => (hp id).map contV
  | .agg ss, .agg l => (lows hp ss l).map .agg
  | _, .int k n => some (.int k n)
  | _, .bool b => some (.bool b)
  | _, .str l => some (.str l)
  | _, .bytes l => some (.bytes l)
  | _, .rows e l => some (.rows e l)
  | _, .barr n l => some (.barr n l)
  | _, .arr e n l => some (.arr e n l)
  | _, .nil k => some (.nil k)
  | _, _ => none
def lows (hp : Nat → Option Blk) : List Sh → List V → Option (List V)
  | [], [] => some []
  | s :: r, v :: l => match low hp s v with
    | some x => match lows hp r l with
      | some y => some (x :: y)
      | none => none
    | none => none
  | _, _ => none
end
/- the blocks that a value points to -/
mutual
def ids : V → List Nat
  | .ref id _ _ _ => [id]
  | .own id _ _ => [id]
  | .agg l => idss l
  | .fn _ a b => idss a ++ idss b
  | _ => []
def idss : List V → List Nat
  | [] => []
  | v :: l => ids v ++ idss l
end
/- values that point to no memory -/
mutual
def flatS : Sh → Bool
  | .int _ | .bool | .str | .barr _ => true
  | .arr _ e => flatS e
  | .agg l => flatSs l
  | _ => false
def flatSs : List Sh → Bool
  | [] => true
  | s :: r => flatS s && flatSs r
end
mutual
def flatV : V → Bool
  | .int _ _ | .bool _ | .str _ | .barr _ _ | .nil _ => true
  | .arr e _ _ => flatS e
  | .agg l => flatVs l
  | .tup l => flatVs l
  | .ownv _ (.bytes _) => true
  | .ownv _ (.rows e _) => flatS e
  | _ => false
def flatVs : List V → Bool
  | [] => true
  | v :: l => flatV v && flatVs l
end
def toView : Blk → Blk
  | .row _ _ c => .view c
  | b => b
def sealB (hp : Nat → Option Blk) (l : List Nat) : List (Nat × Option Blk) := l.map fun i => (i, (hp i).map toView)
/-- results: a row of the call's own is handed over -/
def pack (hp : Nat → Option Blk) (sh : Sh × TypeId) (v : V) : Option V :=
  match v with
  | .own id _ _ => match hp id with
    | some (.row T _ c) => some (.ownv T c)
    | some (.view c) => some c
    | _ => none
  | .nils => (low hp sh.1 .nils).map (.ownv sh.2)
  | v => low hp sh.1 v
def idOk : V → List V → Bool
  | .own id _ _, l => !(idss l).contains id
  | _, _ => true
def packs (hp : Nat → Option Blk) : List (Sh × TypeId) → List V → Option (List V)
  | [], [] => some []
  | s :: r, v :: l => match pack hp s v, lows hp (r.map (·.1)) l with
    | some x, some y => bif idOk v l then some (x :: y) else none
    | _, _ => none
  | _, _ => none
/-- what a call hands over gets a number -/
def unpack (nid : Nat) : V → V × List (Nat × Option Blk)
  | .ownv T c => (.own nid (lenC c) (elSh c), [(nid, some (.row T (elSh c) c))])
  | .tup (.ownv T c :: r) => (.tup (.own nid (lenC c) (elSh c) :: r), [(nid, some (.row T (elSh c) c))])
  | v => (v, [])

def buildP (ok : Sh → V → Bool) : List Sh → List V → List (Nat × V) → Option (List V)
  | _, l, [] => some l
  | ss, l, (j, x) :: r => match nthL ss j with
    | some s => bif ok s x then buildP ok ss (setL l j x) r else none
    | none => none
def buildA (e : Sh) : List V → List (Nat × V) → Option (List V)
  | l, [] => some l
  | l, (j, x) :: r => bif isR e x && Nat.blt j l.length then buildA e (setL l j x) r else none
def buildB (n : Nat) : List UInt8 → List (Nat × V) → Option (List UInt8)
  | l, [] => some l
  | l, (j, .int .u8 x) :: r => bif Nat.blt j n then buildB n (setL l j (u8 x)) r else none
  | _, _ => none
def buildV (sh : Sh) (parts : List (Nat × V)) : Option V :=
  match sh with
  | .agg ss => (buildP isSh ss (zeroVs ss) parts).map .agg
  | .barr n => (buildB n (List.replicate n 0) parts).map (.barr n)
  | .arr n e => (buildA e (List.replicate n (zeroR e)) parts).map (.arr e n)
  | _ => none
def zipP : List (Nat × Operand) → List V → List (Nat × V)
  | (j, _) :: r, v :: l => (j, v) :: zipP r l
  | _, _ => []

/-- the bounds of a slice: from, to, and whether they are within n -/
def bndV (lo hi : Option V) (n : Nat) : Option (Nat × Nat × Bool) :=
  match lo, hi with
  | none, none => some (0, n, true)
  | some (.int _ i), none => some (i.toNat, n, inC i n)
  | none, some (.int _ j) => some (0, j.toNat, inC j n)
  | some (.int _ i), some (.int _ j) => some (i.toNat, j.toNat, inC i j.toNat && inC j n)
  | _, _ => none
def cutL {α : Type} (l : List α) (i j : Nat) : List α := (l.drop i).take (j - i)
def sliceV (P : Program) (t : TypeId) (x : V) (lo hi : Option V) : Option Res :=
  match x with
  | .bytes l => match bndV lo hi l.length with
    | some (i, j, ok) => bif ixOkS P t (.int .u8) then some ⟨.bytes (cutL l i j), ok, []⟩ else none
    | none => none
  | .rows e l => match bndV lo hi l.length with
    | some (i, j, ok) => bif ixOkS P t e then some ⟨.rows e (cutL l i j), ok, []⟩ else none
    | none => none
  | .str l => match bndV lo hi l.length, P.underlying t with
    | some (i, j, ok), some .string => some ⟨.str (cutL l i j), ok, []⟩
    | _, _ => none
  | _ => none
def lenOk (P : Program) (t : TypeId) (x : V) : Bool :=
  match P.underlying t, x with
  | some (.slice _), .bytes _ | some (.slice _), .rows _ _ | some (.slice _), .own _ _ _ | some (.slice _), .nils => true
  | some .string, .str _ => true
  | some (.array m _), .barr n _ => Nat.beq m n
  | some (.array m _), .arr _ n _ => Nat.beq m n
  | _, _ => false
def convV (P : Program) (src dst : TypeId) (x : V) (hp : Nat → Option Blk) : Option V :=
  match P.underlying src, P.underlying dst, x with
  | some _, some (.int k), .int _ n => some (.int k (k.wrap n))
  | some .string, some .string, .str l => some (.str l)
  | some (.slice e), some .string, x => match P.underlying e with
    | some (.int .u8) => match sliceC hp x with
      | some (.bytes l) => bif isSl x then some (.str l) else none
      | _ => none
    | _ => none
  | _, _, _ => none

def indexV (P : Program) (t : TypeId) (x : V) (i : Int) : Option Res :=
  match x with
  | .own id n sh => bif ixOkS P t sh then some ⟨.ref id [.idx i.toNat] (i.toNat * sh.size) sh, inB i n, []⟩ else none
  | .ref id p off (.barr n) => bif ixOkA P t n (.int .u8) then some ⟨.ref id (p ++ [.idx i.toNat]) (off + i.toNat) (.int .u8), inB i n, []⟩ else none
  | .ref id p off (.arr n e) => bif ixOkA P t n e then some ⟨.ref id (p ++ [.idx i.toNat]) (off + i.toNat * e.size) e, inB i n, []⟩ else none
  | .bytes l => bif ixOkS P t (.int .u8) then some ⟨.vref (.int .u8) (.int .u8 (gt l i.toNat)), inB i l.length, []⟩ else none
  | .rows e l => bif ixOkS P t e then some ⟨.vref e (eta e (l.getD i.toNat .undef)), inB i l.length, []⟩ else none
  | .vref (.barr n) (.barr _ l) => bif ixOkA P t n (.int .u8) then some ⟨.vref (.int .u8) (.int .u8 (gt l i.toNat)), inB i n, []⟩ else none
  | .vref (.arr n e) (.arr _ _ l) => bif ixOkA P t n e then some ⟨.vref e (eta e (l.getD i.toNat .undef)), inB i n, []⟩ else none
  | _ => none
def idxV (P : Program) (t : TypeId) (x : V) (i : Int) : Option Res :=
  match x with
  | .barr n l => bif ixOkA P t n (.int .u8) && ldOk P (elTy P t) (.int .u8) then some ⟨.int .u8 (gt l i.toNat), inB i n, []⟩ else none
  | .arr e n l => bif ixOkA P t n e && ldOk P (elTy P t) e then some ⟨eta e (l.getD i.toNat .undef), inB i n, []⟩ else none
  | .str l => match P.underlying t with
    | some .string => some ⟨.int .u8 (gt l i.toNat), inB i l.length, []⟩
    | _ => none
  | _ => none

/-- what is known of a function that is called -/
inductive Con where
  | val (ps : List Sh) (F : List V → Option (V × Bool))

def conR (G : List (Nat × Con)) (hp : Nat → Option Blk) (nid : Nat) (f : FuncId) (vs : List V) : Option Res :=
  match look G f with
  | some (.val ps F) => match lows hp ps vs with
    | some as => match F as with
      | some (v, ob) => some ⟨(unpack nid v).1, ob, (unpack nid v).2 ++ (bif flatV v then [] else sealB hp (idss vs))⟩
      | none => none
    | none => none
  | none => none
def appOk (hp : Nat → Option Blk) (T : TypeId) : V → Bool
  | .nils => true
  | .own id _ _ => match hp id with
    | some (.row T' _ _) => Nat.beq T T'
    | _ => false
  | _ => false
/-- what is built in -/
def bltR (P : Program) (b : Builtin) (ats : List TypeId) (vs : List V) (hp : Nat → Option Blk) (nid : Nat) : Option Res :=
  match b, ats, vs with
  | .len, [t], [x] => match lenV x with
    | some n => bif lenOk P t x then pureR (.int .i64 n) else none
    | none => none
  | .min, _, [.int k x, .int k' y] => bif decide (k = k') then pureR (.int k (if y < x then y else x)) else none
  | .max, _, [.int k x, .int k' y] => bif decide (k = k') then pureR (.int k (if y > x then y else x)) else none
  | .append, [t, t'], [x, y] => match appV hp x y with
    | some z => match elOf P t (elSh z) with
      | some (T, by') => bif Nat.beq t t' && appOk hp T x && isSl y then
          some ⟨.own nid (lenC z) (elSh z), Nat.ble (lenC z * by') 140737488355328, (ids x).map (fun i => (i, none)) ++ [(nid, some (.row T (elSh z) z))]⟩ else none
      | none => none
    | none => none
  | _, _, _ => none
/-- where the parts of a type lie -/
def plcOk (P : Program) (t : TypeId) (sh : Sh) : Bool :=
  match P.underlying t, sh with
  | some (.struct fs), .agg ss => Nat.beq fs.size ss.length && (List.range ss.length).all fun j => offOk P t ss j
  | some (.array m e), .barr n => Nat.beq m n && szOk P e (.int .u8)
  | some (.array m e), .arr n s => Nat.beq m n && szOk P e s
  | _, _ => false
/-- one operation, its operands evaluated: 'hp' is asked for the blocks that 'touch' names alone -/
def act (P : Program) (G : List (Nat × Con)) (o : Oper) (vs : List V) (hp : Nat → Option Blk) (nid : Nat) : Option Res :=
  match o.op, vs with
  | .move _, [x] => pureR x
  | .assign _, [x] => pureR x
  | .pick _ _ _, [.bool c, a, b] => (pickV c a b).map fun v => ⟨v, true, []⟩
  | .alloc t, _ => match shOf P depth t with
    | some sh => bif zOk P t sh then some ⟨.ref nid [] 0 sh, true, [(nid, some (.var sh (zeroV sh)))]⟩ else none
    | none => none
  | .box t _, [x] => match shOf P depth t with
    | some sh => bif isSh sh x then some ⟨.ref nid [] 0 sh, true, [(nid, some (.var sh x))]⟩ else none
    | none => none
  | .build t parts, vs => match shOf P depth t with
    | some sh => bif zOk P t sh && plcOk P t sh then (match buildV sh (zipP parts.toList vs) with
      | some v => pureR v
      | none => none) else none
    | none => none
  | .buildSlice t n parts, vs => match shOf P depth t with
    | some .bytes => match elOf P t (.int .u8), buildB n (List.replicate n 0) (zipP parts.toList vs) with
      | some (T, _), some l => bif zOk P T (.int .u8) && Nat.ble n 16777216 then some ⟨.own nid n (.int .u8), true, [(nid, some (.row T (.int .u8) (.bytes l)))]⟩ else none
      | _, _ => none
    | some (.rows e) => match elOf P t e, lows hp (List.replicate vs.length e) vs with
      | some (T, _), some xs => match buildA e (List.replicate n (zeroR e)) (zipP parts.toList xs) with
        | some l => bif zOk P T e && isR e (zeroR e) && Nat.ble (n * e.size) 16777216 then some ⟨.own nid n e, true, (nid, some (.row T e (.rows e l))) :: sealB hp (idss vs)⟩ else none
        | none => none
      | _, _ => none
    | _ => none
  | .load t _, [x] => match x with
    | .ref id p _ sh => match hp id with
      | some b => match getP (contV b) p with
        | some v => bif ldOk P t sh then pureR v else none
        | none => none
      | none => none
    | .vref sh v => bif ldOk P t sh then pureR v else none
    | _ => none
  | .store t _ _, [x, y] => match x with
    | .ref id p _ sh => match hp id with
      | some (.var s v) => match setP v p y with
        | some v' => bif ldOk P t sh && isSh sh y then some ⟨.void, true, [(id, some (.var s v'))]⟩ else none
        | none => none
      | some (.row T s v) => match low hp sh y with
        | some z => match setP v p z with
          | some v' => bif ldOk P t sh && isR sh z && !(ids y).contains id then some ⟨.void, true, (id, some (.row T s v')) :: sealB hp (ids y)⟩ else none
          | none => none
        | none => none
      | _ => none
    | _ => none
  | .nilCheck _, [x] => match x with
    | .ref id p o s => pureR (.ref id p o s)
    | .vref s v => pureR (.vref s v)
    | .fn f a c => pureR (.fn f a c)
    | _ => none
  | .binOp op t _ _ _, [x, y] => binV P t op x y
  | .unOp op _ _, [x] => unV op x
  | .convert src dst _, [x] => match convV P src dst x hp with
    | some v => pureR v
    | none => none
  | .makeFunc (.func f) a _, vs => pureR (.fn f (vs.take a.size) (vs.drop a.size))
  | .slice t _ lo hi none, vs => match lo, hi, vs with
    | none, none, [x] => sliceV P t x none none
    | some _, none, [x, i] => sliceV P t x (some i) none
    | none, some _, [x, j] => sliceV P t x none (some j)
    | some _, some _, [x, i, j] => sliceV P t x (some i) (some j)
    | _, _, _ => none
  | .fieldAddr t _ j, [x] => match x with
    | .ref id p off (.agg ss) => match nthL ss j with
      | some s => bif offOk P t ss j then pureR (.ref id (p ++ [.fld j]) (off + fldOff ss j) s) else none
      | none => none
    | .vref (.agg ss) (.agg l) => match nthL ss j, nthL l j with
      | some s, some v => bif offOk P t ss j then pureR (.vref s v) else none
      | _, _ => none
    | _ => none
  | .field t _ j, [.agg l] => match shOf P depth t with
    | some (.agg ss) => match nthL ss j, nthL l j with
      | some s, some v => bif offOk P t ss j && ldOk P (fldTy P t j) s && isShs ss l then pureR v else none
      | _, _ => none
    | _ => none
  | .indexAddr t _ _, [x, .int _ i] => indexV P t x i
  | .index t _ _, [x, .int _ i] => idxV P t x i
  | .extract _ j, [.tup l] => match nthL l j with
    | some v => pureR v
    | none => none
  | .makeSlice t _ _, [.int .i64 n, .int .i64 m] => match shOf P depth t with
    | some .bytes => match elOf P t (.int .u8) with
      | some (T, by') => bif zOk P T (.int .u8) then some ⟨.own nid n.toNat (.int .u8), n == m && inC n 9223372036854775807 && Nat.ble (by' * n.toNat) 281474976710656, [(nid, some (.row T (.int .u8) (.bytes (List.replicate n.toNat 0))))]⟩ else none
      | none => none
    | _ => none
  | .call c, vs => match c.callee, vs with
    | .builtin b, vs => bltR P b c.argTypes.toList vs hp nid
    | .value (.func f), vs => conR G hp nid f vs
    | .value _, .fn f a b :: vs => conR G hp nid f (a ++ vs ++ b)
    | _, _ => none
  | _, _ => none

/-- the operands that are looked at, in order -/
def opnds (o : Oper) : List Operand :=
  match o.op with
  | .call c => match c.callee with
    | .value (.func _) => c.args.toList
    | .value f => f :: c.args.toList
    | _ => c.args.toList
  | op => op.operands.toList
end Go.Am
