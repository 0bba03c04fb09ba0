/- Part Gb of the proof: laws used by the law of this claim. -/
import Derived.Laws.Strings2
import Derived.Test.YtbbgkhmlbickpaaDoorGa
set_option linter.all false
namespace Go.Am
open Go Go.RowKit Go.Bas

inductive NK where
  | ptr | func | iface | map
  deriving DecidableEq, Inhabited
/-- the shape of a variable -/
inductive Sh where
  | int (k : IntKind) | bool | str | bytes | other (k : NK)
  | rows (e : Sh)
  | barr (n : Nat)
  | arr (n : Nat) (e : Sh)
  | agg (l : List Sh)
  deriving Inhabited

inductive Step where
  | fld (j : Nat)
  | idx (i : Nat)

/-- values: 'bytes', 'rows': what a slice reads as; 'own': a slice over a whole row of the call's own; 'ref': a variable of the call's own -/
inductive V where
  | int (k : IntKind) (n : Int)
  | bool (b : Bool)
  | str (l : List UInt8)
  | nils
  | bytes (l : List UInt8)
  | rows (e : Sh) (l : List V)
  | barr (n : Nat) (l : List UInt8)
  | arr (e : Sh) (n : Nat) (l : List V)
  | agg (l : List V)
  | tup (l : List V)
  | ref (id : Nat) (p : List Step) (off : Nat) (sh : Sh)
  | vref (sh : Sh) (v : V)
  | own (id : Nat) (n : Nat) (sh : Sh)
  | win (id : Nat) (p : List Step) (off lo n c : Nat) (sh : Sh)
  | ownv (T : TypeId) (v : V)
  | fn (f : FuncId) (first caps : List V)
  | ifc (t : TypeId) (v : V)
  | mv (m : String) (t : TypeId) (v : V)
  | avs (id n : Nat) (e : Sh)
  | nil (k : NK)
  | void
  | undef
  deriving Inhabited

inductive Blk where
  | var (sh : Sh) (v : V)
  | row (T : TypeId) (sh : Sh) (v : V)
  | view (v : V)

structure S where
  sl : List (Nat × V)
  hp : List (Nat × Option Blk)
  nx : Nat
  ob : Bool
  n : Nat

/-! ### lists -/
def look {α : Type} : List (Nat × α) → Nat → Option α
  | [], _ => none
  | (a, v) :: r, t => bif Nat.beq a t then some v else look r t
def lookH : List (Nat × Option Blk) → Nat → Option Blk
  | [], _ => none
  | (a, v) :: r, t => bif Nat.beq a t then v else lookH r t
def nthL {α : Type} : List α → Nat → Option α
  | [], _ => none
  | x :: _, 0 => some x
  | _ :: l, i + 1 => nthL l i
def setL {α : Type} : List α → Nat → α → List α
  | [], _, _ => []
  | _ :: l, 0, y => y :: l
  | x :: l, i + 1, y => x :: setL l i y
def mapO {α β : Type} (f : α → Option β) : List α → Option (List β)
  | [] => some []
  | x :: l => match f x with
    | some y => match mapO f l with
      | some r => some (y :: r)
      | none => none
    | none => none

/-! ### shapes -/
mutual
def Sh.size : Sh → Nat
  | .barr n => n
  | .arr n e => n * e.size
  | .agg l => Sh.sizes l
  | .int _ | .bool | .str | .bytes | .other _ | .rows _ => 1
def Sh.sizes : List Sh → Nat
  | [] => 0
  | s :: r => s.size + Sh.sizes r
end
def Sh.isAgg : Sh → Bool
  | .barr _ | .arr _ _ | .agg _ => true
  | _ => false
/- values of a shape need no block of the call's own -/
mutual
def plainS : Sh → Bool
  | .other _ => false
  | .agg l => plainSs l
  | .arr _ e => plainS e
  | _ => true
def plainSs : List Sh → Bool
  | [] => true
  | s :: r => plainS s && plainSs r
end
/-- an array of what holds functions or pointers is told part by part -/
def arrS (n : Nat) (s : Sh) : Sh := bif plainS s then .arr n s else .agg (List.replicate n s)
def shOf (P : Program) : Nat → TypeId → Option Sh
  | 0, _ => none
  | d + 1, t => match P.underlying t with
    | some (.int k) => some (.int k)
    | some .bool => some .bool
    | some .string => some .str
    | some (.slice e) => match shOf P d e with
      | some (.int .u8) => some .bytes
      | some s => some (.rows s)
      | none => none
    | some (.array n e) => match shOf P d e with
      | some (.int .u8) => some (.barr n)
      | some s => some (arrS n s)
      | none => none
    | some (.struct fs) => (mapO (fun f => shOf P d f.type) fs.toList).map .agg
    | some (.pointer _) => some (.other .ptr)
    | some (.map _ _) => some (.other .map)
    | some (.func _ _ _) => some (.other .func)
    | some (.interface _) => some (.other .iface)
    | _ => none

/-! ### reading and writing parts -/
def toI : V → Int | .int _ n => n | _ => 0
def toB : V → Bool | .bool b => b | _ => false
def toS : V → List UInt8 | .str l => l | _ => []
def toL : V → List UInt8 | .bytes l => l | _ => []
def toR : V → List V | .rows _ l => l | _ => []
def toA : V → List UInt8 | .barr _ l => l | _ => []
def toE : V → List V | .arr _ _ l => l | _ => []
def toG : V → List V | .agg l => l | _ => []
/- the same value, in the form that its shape has -/
mutual
def eta : Sh → V → V
  | .int k, v => .int k (toI v)
  | .bool, v => .bool (toB v)
  | .str, v => .str (toS v)
  | .bytes, v => .bytes (toL v)
  | .rows e, v => .rows e (toR v)
  | .barr n, v => .barr n (toA v)
  | .arr n e, v => .arr e n (toE v)
  | .agg l, v => .agg (etas l (toG v))
  | .other _, v => v
def etas : List Sh → List V → List V
  | [], _ => []
  | s :: r, l => eta s (l.headD .undef) :: etas r l.tail
end
def u8 (x : Int) : UInt8 := UInt8.ofNat x.toNat
/- are two shapes the same? -/
mutual
def Sh.beq : Sh → Sh → Bool
  | .int k, .int k' => decide (k = k')
  | .bool, .bool | .str, .str | .bytes, .bytes => true
  | .other k, .other k' => decide (k = k')
  | .rows e, .rows f => Sh.beq e f
  | .barr n, .barr m => Nat.beq n m
  | .arr n e, .arr m f => Nat.beq n m && Sh.beq e f
  | .agg l, .agg m => Sh.beqs l m
  | _, _ => false
def Sh.beqs : List Sh → List Sh → Bool
  | [], [] => true
  | a :: l, b :: m => Sh.beq a b && Sh.beqs l m
  | _, _ => false
end
/- a value of a shape, that points to nothing of the call's own -/
mutual
def isR : Sh → V → Bool
  | .int k, .int k' _ => decide (k = k')
  | .bool, .bool _ => true
  | .str, .str _ => true
  | .bytes, .bytes _ => true
  | .rows e, .rows f _ => Sh.beq e f
  | .barr n, .barr m _ => Nat.beq n m
  | .arr n e, .arr f m _ => Nat.beq n m && Sh.beq e f
  | .agg ss, .agg l => isRs ss l
  | _, _ => false
def isRs : List Sh → List V → Bool
  | [], [] => true
  | s :: r, v :: l => isR s v && isRs r l
  | _, _ => false
end
/- a value of a shape: a slice may be nil, or of the call's own -/
mutual
def isSh : Sh → V → Bool
  | .int k, .int k' _ => decide (k = k')
  | .bool, .bool _ => true
  | .str, .str _ => true
  | .bytes, .bytes _ => true
  | .bytes, .nils => true
  | .bytes, .own _ _ s => Sh.beq s (.int .u8)
  | .bytes, .win _ _ _ _ _ _ s => Sh.beq s (.int .u8)
  | .rows e, .rows f _ => Sh.beq e f
  | .rows _, .nils => true
  | .rows e, .own _ _ s => Sh.beq e s
  | .rows e, .win _ _ _ _ _ _ s => Sh.beq e s
  | .barr n, .barr m _ => Nat.beq n m
  | .arr n e, .arr f m _ => Nat.beq n m && Sh.beq e f
  | .agg ss, .agg l => isShs ss l
  | .other .ptr, .ref _ _ _ _ => true
  | .other .func, .fn _ _ _ => true
  | .other .iface, .ifc _ _ => true
  | .other k, .nil k' => decide (k = k')
  | _, _ => false
def isShs : List Sh → List V → Bool
  | [], [] => true
  | s :: r, v :: l => isSh s v && isShs r l
  | _, _ => false
end
/-- the part at a path -/
def getP : V → List Step → Option V
  | v, [] => some v
  | .agg l, .fld j :: p => match nthL l j with
    | some x => getP x p
    | none => none
  | .barr _ l, [.idx i] => some (.int .u8 (gt l i))
  | .bytes l, [.idx i] => some (.int .u8 (gt l i))
  | .arr e _ l, .idx i :: p => getP (eta e (l.getD i .undef)) p
  | .rows e l, .idx i :: p => getP (eta e (l.getD i .undef)) p
  | _, _ => none
/- the zero value, cell by cell -/
mutual
def zeroC : Sh → List Value
  | .int k => [.int k 0]
  | .bool => [.bool false]
  | .str => [.string ⟨#[]⟩]
  | .bytes => [.slice none 0 0]
  | .rows _ => [.slice none 0 0]
  | .barr n => List.replicate n (.int .u8 0)
  | .arr n e => (List.replicate n (zeroC e)).flatten
  | .agg l => zeroCs l
  | .other .ptr => [.pointer none]
  | .other .func => [.nilFunc]
  | .other .iface => [.nilIface]
  | .other .map => [.map none]
def zeroCs : List Sh → List Value
  | [] => []
  | s :: r => zeroC s ++ zeroCs r
end
/- arrays hold what points to nothing -/
/-! ### operations -/
/- values made of integers, bools and strings alone: are they the same? -/
def V.isAgg : V → Bool
  | .barr _ _ | .arr _ _ _ | .agg _ => true
  | _ => false
/- the kinds of the integers that a value is made of -/
/-- struct fields lie where the shape says -/
def fldOff : List Sh → Nat → Nat
  | [], _ => 0
  | _, 0 => 0
  | s :: r, j + 1 => s.size + fldOff r j
def contV : Blk → V
  | .var _ v => v
  | .row _ _ v => v
  | .view v => v
def cutL {α : Type} (l : List α) (i j : Nat) : List α := (l.drop i).take (j - i)
/-- so many elements from a place on -/
def winC (v : V) (p : List Step) (lo n : Nat) : Option V :=
  match getP v p with
  | some (.barr _ l) => some (.bytes (cutL l lo (lo + n)))
  | some (.bytes l) => some (.bytes (cutL l lo (lo + n)))
  | some (.arr e _ l) => some (.rows e (cutL l lo (lo + n)))
  | some (.rows e l) => some (.rows e (cutL l lo (lo + n)))
  | _ => none
def isRow : V → Bool
  | .bytes _ | .rows _ _ => true
  | _ => false
def elSh : V → Sh
  | .rows e _ => e
  | _ => .int .u8
def isVar : Blk → Bool
  | .var _ _ => true
  | _ => false
/- by value, for who is called: 'vw' = a part of a variable is lent, too -/
mutual
def low (vw : Bool) (hp : Nat → Option Blk) : Sh → V → Option V
  | .bytes, .nils => some (.bytes [])
  | .rows e, .nils => some (.rows e [])
  | _, .own id _ _ => (hp id).map contV
  | _, .win id p _ lo n _ _ => (hp id).bind fun k => bif isVar k && !vw then none else winC (contV k) p lo n
  | .agg ss, .agg l => (lows vw hp ss l).map .agg
  | _, .int k n => some (.int k n)
  | _, .bool b => some (.bool b)
  | _, .str l => some (.str l)
  | _, .bytes l => some (.bytes l)
  | _, .rows e l => some (.rows e l)
  | _, .barr n l => some (.barr n l)
  | _, .arr e n l => some (.arr e n l)
  | _, .nil k => some (.nil k)
  | _, _ => none
def lows (vw : Bool) (hp : Nat → Option Blk) : List Sh → List V → Option (List V)
  | [], [] => some []
  | s :: r, v :: l => match low vw hp s v with
    | some x => match lows vw hp r l with
      | some y => some (x :: y)
      | none => none
    | none => none
  | _, _ => none
end
/- the blocks that a value points to -/
/- values that point to no memory -/
mutual
def flatS : Sh → Bool
  | .int _ | .bool | .str | .barr _ => true
  | .arr _ e => flatS e
  | .agg l => flatSs l
  | _ => false
def flatSs : List Sh → Bool
  | [] => true
  | s :: r => flatS s && flatSs r
end
mutual
def flatV : V → Bool
  | .int _ _ | .bool _ | .str _ | .barr _ _ | .nil _ => true
  | .arr e _ _ => flatS e
  | .agg l => flatVs l
  | .tup l => flatVs l
  | .ownv _ (.bytes _) => true
  | .ownv _ (.rows e _) => flatS e
  | _ => false
def flatVs : List V → Bool
  | [] => true
  | v :: l => flatV v && flatVs l
end
/-- what is known of a function that is called -/
inductive Con where
  | val (ps : List Sh) (F : List V → Option (V × Bool))
  | app (T : TypeId) (F : List V → Option (List UInt8 × Bool))
/- a call that puts bytes behind those of a row of the call's own, and hands the row back -/
/- is a part of a variable lent? -/
/-! ### interfaces -/
end Go.Am

namespace Go.Am
open Go Go.RowKit Go.Bas

/-- what stands behind a number of the machine's memory -/
inductive Cn where
  | var (g : Nat) (sh : Sh)
  | row (A : Option Addr) (n c : Nat) (T : TypeId) (sh : Sh)

/-- where a part lies -/
inductive At : Sh → List Step → Nat → Sh → Prop
  | here {s} : At s [] 0 s
  | fld {l j p s o r} (hj : nthL l j = some s) (h : At s p o r) : At (.agg l) (.fld j :: p) (fldOff l j + o) r
  | byte {n i} (hi : i < n) : At (.barr n) [.idx i] i (.int .u8)
  | elem {n i e p o r} (hi : i < n) (h : At e p o r) : At (.arr n e) (.idx i :: p) (i * e.size + o) r

/-- the call's own variable, or element, at a path -/
def RefTo (ι : Nat → Option Cn) (id : Nat) (p : List Step) (off : Nat) (sh : Sh) (g : Nat) : Prop :=
  (∃ s0, ι id = some (.var g s0) ∧ At s0 p off sh) ∨
  (∃ n c T e, ι id = some (.row (some ⟨g, 0, none⟩) n c T e) ∧ At (.arr n e) p off sh ∧ p ≠ [])

/-- an array's shape -/
inductive ArrS (N : Nat) : Sh → Sh → Prop
  | b : ArrS N (.int .u8) (.barr N)
  | a {e} : ArrS N e (.arr N e)
/-- where a part of an array, or of a row, of the call's own lies -/
def WinTo (ι : Nat → Option Cn) (id : Nat) (p : List Step) (off lo n c k : Nat) (sh : Sh) (g : Nat) : Prop :=
  (∃ r N o, RefTo ι id p o r g ∧ ArrS N sh r ∧ off = o + lo * sh.size ∧ lo + c ≤ N ∧ n ≤ c ∧ k = c) ∨
  (∃ N cc T, ι id = some (.row (some ⟨g, 0, none⟩) N cc T sh) ∧ p = [] ∧ off = lo * sh.size ∧ lo + n ≤ N)

mutual
inductive CRep (ι : Nat → Option Cn) (O : Nat → Prop) (w : World) : V → List Value → Prop
  | int {k n} (h : k = .u8 → 0 ≤ n ∧ n < 256) : CRep ι O w (.int k n) [.int k n]
  | bool {b} : CRep ι O w (.bool b) [.bool b]
  | str {l} : CRep ι O w (.str l) [.string ⟨l.toArray⟩]
  | nils : CRep ι O w .nils [.slice none 0 0]
  | bytes {A n c l} (h : Bs w A n c l) (ho : l ≠ [] → ∀ b off, A = some ⟨b, off, none⟩ → ¬ O b) : CRep ι O w (.bytes l) [.slice A n c]
  | rows {e l A n c ds} (hn : n = l.length) (hc : n ≤ c) (hm : c ≤ 9223372036854775807) (he : ∀ x ∈ l, isR e x = true) (hr : CReps ι O w l ds)
      (hd : l ≠ [] → ∃ b off, A = some ⟨b, off, none⟩ ∧ ¬ O b ∧ b < w.heap.size ∧ ∀ j v, ds[j]? = some v → w.cell? ⟨b, off + j, none⟩ = some v) : CRep ι O w (.rows e l) [.slice A n c]
  | barr {n l} (h : l.length = n) : CRep ι O w (.barr n l) (l.map bv)
  | arr {e n l ds} (h : l.length = n) (he : ∀ x ∈ l, isR e x = true) (hr : CReps ι O w l ds) : CRep ι O w (.arr e n l) ds
  | agg {l ds} (hr : CReps ι O w l ds) : CRep ι O w (.agg l) ds
  | ref {id p off sh g} (h : RefTo ι id p off sh g) : CRep ι O w (.ref id p off sh) [.pointer (some ⟨g, off, none⟩)]
  | vref {sh v b off ds} (hs : isR sh v = true) (hr : CRep ι O w v ds) (ho : ¬ O b) (hb : b < w.heap.size) (hd : ∀ j u, ds[j]? = some u → w.cell? ⟨b, off + j, none⟩ = some u) :
      CRep ι O w (.vref sh v) [.pointer (some ⟨b, off, none⟩)]
  | own {id n sh A c T} (h : ι id = some (.row A n c T sh)) (hA : 0 < n → ∃ g, A = some ⟨g, 0, none⟩) (hc : n ≤ c ∧ c ≤ 9223372036854775807) : CRep ι O w (.own id n sh) [.slice A n c]
  | win {id p off lo n c sh A k} (hk : n ≤ k) (hm : k ≤ 9223372036854775807) (h : 0 < n → ∃ g, A = some ⟨g, off, none⟩ ∧ WinTo ι id p off lo n c k sh g) : CRep ι O w (.win id p off lo n c sh) [.slice A n k]
  | fn {f a b as bs} (ha : VReps ι O w a as) (hb : VReps ι O w b bs) : CRep ι O w (.fn f a b) [.func (.func f) as.toArray bs.toArray]
  | ifc {t v c} (h : CRep ι O w v [c]) : CRep ι O w (.ifc t v) [.iface t c]
  | mv {m t v c} (h : CRep ι O w v [c]) : CRep ι O w (.mv m t v) [.func (.method m) #[.iface t c] #[]]
  | avs {id n e g} (h : ι id = some (.var g (.agg (List.replicate n e)))) : CRep ι O w (.avs id n e) [.slice (some ⟨g, 0, none⟩) n n]
  | nilp : CRep ι O w (.nil .ptr) [.pointer none]
  | nilf : CRep ι O w (.nil .func) [.nilFunc]
  | nili : CRep ι O w (.nil .iface) [.nilIface]
  | nilm : CRep ι O w (.nil .map) [.map none]
inductive CReps (ι : Nat → Option Cn) (O : Nat → Prop) (w : World) : List V → List Value → Prop
  | nil : CReps ι O w [] []
  | cons {v l cs ds} (h : CRep ι O w v cs) (hr : CReps ι O w l ds) : CReps ι O w (v :: l) (cs ++ ds)
/-- a value as an operand has it -/
inductive VRep (ι : Nat → Option Cn) (O : Nat → Prop) (w : World) : V → Value → Prop
  | one {v c} (h : CRep ι O w v [c]) (ha : v.isAgg = false) : VRep ι O w v c
  | agg {v cs} (h : CRep ι O w v cs) (ha : v.isAgg = true) : VRep ι O w v (.agg cs.toArray)
  | tup {l cs} (h : VReps ι O w l cs) : VRep ι O w (.tup l) (.tuple cs.toArray)
  | void : VRep ι O w .void Go.undef
  | undef {c} : VRep ι O w .undef c
inductive VReps (ι : Nat → Option Cn) (O : Nat → Prop) (w : World) : List V → List Value → Prop
  | nil : VReps ι O w [] []
  | cons {v l c cs} (h : VRep ι O w v c) (hr : VReps ι O w l cs) : VReps ι O w (v :: l) (c :: cs)
end

/-- from one world to a later one: what is nobody's alone stays -/
structure Ext (ι ι' : Nat → Option Cn) (O O' : Nat → Prop) (w w' : World) : Prop where
  size : w.heap.size ≤ w'.heap.size
  io : ∀ id c, ι id = some c → ι' id = some c
  same : ∀ b, b < w.heap.size → ¬ O b → w'.heap[b]? = w.heap[b]?
  own : ∀ b, O' b → O b ∨ w.heap.size ≤ b

section
variable {ι ι' ι'' : Nat → Option Cn} {O O' O'' : Nat → Prop} {w w' w'' : World}
theorem Ext.refl : Ext ι ι O O w w := ⟨Nat.le_refl _, fun _ _ h => h, fun _ _ _ => rfl, fun _ h => .inl h⟩
theorem Ext.trans (h : Ext ι ι' O O' w w') (k : Ext ι' ι'' O' O'' w' w'') : Ext ι ι'' O O'' w w'' :=
  ⟨Nat.le_trans h.size k.size, fun id c e => k.io id c (h.io id c e),
   fun b hb ho => (k.same b (Nat.lt_of_lt_of_le hb h.size) (fun h' => (h.own b h').elim ho (by omega))).trans (h.same b hb ho),
   fun b hb => (k.own b hb).elim (h.own b) (fun h' => .inr (Nat.le_trans h.size h'))⟩
theorem Ext.cell (h : Ext ι ι' O O' w w') {b off : Nat} (hb : b < w.heap.size) (ho : ¬ O b) : w'.cell? ⟨b, off, none⟩ = w.cell? ⟨b, off, none⟩ :=
  World.cell?_of_block (w := w) (h.same b hb ho)
theorem Ext.not (h : Ext ι ι' O O' w w') {b : Nat} (hb : b < w.heap.size) (ho : ¬ O b) : ¬ O' b := fun h' => (h.own b h').elim ho (by omega)
theorem RefTo.ext (h : Ext ι ι' O O' w w') {id p off sh g} (hr : RefTo ι id p off sh g) : RefTo ι' id p off sh g := by
  rcases hr with ⟨s0, h1, h2⟩ | ⟨n, c, T, e, h1, h2⟩
  · exact .inl ⟨s0, h.io _ _ h1, h2⟩
  · exact .inr ⟨n, c, T, e, h.io _ _ h1, h2⟩
theorem WinTo.ext (h : Ext ι ι' O O' w w') {id p off lo n c k sh g} (hr : WinTo ι id p off lo n c k sh g) : WinTo ι' id p off lo n c k sh g := by
  rcases hr with ⟨r, N, o, h1, h2⟩ | ⟨N, cc, T, h1, h2⟩
  · exact .inl ⟨r, N, o, h1.ext h, h2⟩
  · exact .inr ⟨N, cc, T, h.io _ _ h1, h2⟩
theorem Bs.ext (h : Ext ι ι' O O' w w') {A n c l} (hb : Bs w A n c l) (ho : l ≠ [] → ∀ b off, A = some ⟨b, off, none⟩ → ¬ O b) : Bs w' A n c l :=
  ⟨hb.len, hb.cap, hb.most, fun hl => by
    obtain ⟨b, off, rfl, hlt, hc⟩ := hb.rd hl
    exact ⟨b, off, rfl, Nat.lt_of_lt_of_le hlt h.size, fun j hj => (h.cell hlt (ho hl b off rfl)).trans (hc j hj)⟩⟩
theorem CRep.ext_all (h : Ext ι ι' O O' w w') :
    (∀ {v cs}, CRep ι O w v cs → CRep ι' O' w' v cs) ∧ (∀ {v cs}, CReps ι O w v cs → CReps ι' O' w' v cs) ∧ (∀ {v cs}, VRep ι O w v cs → VRep ι' O' w' v cs) ∧ (∀ {v cs}, VReps ι O w v cs → VReps ι' O' w' v cs) := by
  have hbytes : ∀ {A n c l}, Bs w A n c l → (l ≠ [] → ∀ b off, A = some ⟨b, off, none⟩ → ¬ O b) → CRep ι' O' w' (.bytes l) [.slice A n c] := by
    intro A n c l hb ho
    refine .bytes (Bs.ext h hb ho) fun hl b off e => ?_
    obtain ⟨b', off', e', hlt, _⟩ := hb.rd hl
    rw [e] at e'
    injection e' with e'; injection e' with e1 e2
    subst e1
    exact h.not hlt (ho hl b off e)
  have hrows : ∀ {e : Sh} {l : List V} {A : Option Addr} {n c : Nat} {ds : List Value}, n = l.length → n ≤ c → c ≤ 9223372036854775807 → (∀ x ∈ l, isR e x = true) → CReps ι' O' w' l ds →
      (l ≠ [] → ∃ b off, A = some ⟨b, off, none⟩ ∧ ¬ O b ∧ b < w.heap.size ∧ ∀ j v, ds[j]? = some v → w.cell? ⟨b, off + j, none⟩ = some v) → CRep ι' O' w' (.rows e l) [.slice A n c] := by
    intro e l A n c ds hn hc hm he ih hd
    exact .rows hn hc hm he ih fun hl => by
      obtain ⟨b, off, e1, ho, hb, hcell⟩ := hd hl
      exact ⟨b, off, e1, h.not hb ho, Nat.lt_of_lt_of_le hb h.size, fun j v hj => (h.cell hb ho).trans (hcell j v hj)⟩
  have hvref : ∀ {sh : Sh} {v : V} {b off : Nat} {ds : List Value}, isR sh v = true → CRep ι' O' w' v ds → ¬ O b → b < w.heap.size → (∀ j u, ds[j]? = some u → w.cell? ⟨b, off + j, none⟩ = some u) → CRep ι' O' w' (.vref sh v) [.pointer (some ⟨b, off, none⟩)] := by
    intro sh v b off ds hs ih ho hb hd
    exact .vref hs ih (h.not hb ho) (Nat.lt_of_lt_of_le hb h.size) fun j u hj => (h.cell hb ho).trans (hd j u hj)
  refine ⟨fun hv => ?_, fun hv => ?_, fun hv => ?_, fun hv => ?_⟩
  · exact CRep.rec (motive_1 := fun v cs _ => CRep ι' O' w' v cs) (motive_2 := fun v cs _ => CReps ι' O' w' v cs) (motive_3 := fun v cs _ => VRep ι' O' w' v cs) (motive_4 := fun v cs _ => VReps ι' O' w' v cs)
      (fun h => .int h) .bool .str .nils (fun hb ho => hbytes hb ho) (fun hn hc hm he _ hd ih => hrows hn hc hm he ih hd) (fun h => .barr h) (fun a b _ c => .arr a b c) (fun _ c => .agg c) (fun hr => .ref (hr.ext h)) (fun hs _ ho hb hd ih => hvref hs ih ho hb hd) (fun hr hA hc => .own (h.io _ _ hr) hA hc) (fun hk hm hw => .win hk hm fun h0 => (hw h0).elim fun g hg => ⟨g, hg.1, hg.2.ext h⟩) (fun _ _ a b => .fn a b) (fun _ a => .ifc a) (fun _ a => .mv a) (fun hr => .avs (h.io _ _ hr)) .nilp .nilf .nili .nilm
      .nil (fun _ _ a b => .cons a b) (fun _ a b => .one b a) (fun _ a b => .agg b a) (fun _ a => .tup a) .void .undef .nil (fun _ _ a b => .cons a b) hv
  · exact CReps.rec (motive_1 := fun v cs _ => CRep ι' O' w' v cs) (motive_2 := fun v cs _ => CReps ι' O' w' v cs) (motive_3 := fun v cs _ => VRep ι' O' w' v cs) (motive_4 := fun v cs _ => VReps ι' O' w' v cs)
      (fun h => .int h) .bool .str .nils (fun hb ho => hbytes hb ho) (fun hn hc hm he _ hd ih => hrows hn hc hm he ih hd) (fun h => .barr h) (fun a b _ c => .arr a b c) (fun _ c => .agg c) (fun hr => .ref (hr.ext h)) (fun hs _ ho hb hd ih => hvref hs ih ho hb hd) (fun hr hA hc => .own (h.io _ _ hr) hA hc) (fun hk hm hw => .win hk hm fun h0 => (hw h0).elim fun g hg => ⟨g, hg.1, hg.2.ext h⟩) (fun _ _ a b => .fn a b) (fun _ a => .ifc a) (fun _ a => .mv a) (fun hr => .avs (h.io _ _ hr)) .nilp .nilf .nili .nilm
      .nil (fun _ _ a b => .cons a b) (fun _ a b => .one b a) (fun _ a b => .agg b a) (fun _ a => .tup a) .void .undef .nil (fun _ _ a b => .cons a b) hv
  · exact VRep.rec (motive_1 := fun v cs _ => CRep ι' O' w' v cs) (motive_2 := fun v cs _ => CReps ι' O' w' v cs) (motive_3 := fun v cs _ => VRep ι' O' w' v cs) (motive_4 := fun v cs _ => VReps ι' O' w' v cs)
      (fun h => .int h) .bool .str .nils (fun hb ho => hbytes hb ho) (fun hn hc hm he _ hd ih => hrows hn hc hm he ih hd) (fun h => .barr h) (fun a b _ c => .arr a b c) (fun _ c => .agg c) (fun hr => .ref (hr.ext h)) (fun hs _ ho hb hd ih => hvref hs ih ho hb hd) (fun hr hA hc => .own (h.io _ _ hr) hA hc) (fun hk hm hw => .win hk hm fun h0 => (hw h0).elim fun g hg => ⟨g, hg.1, hg.2.ext h⟩) (fun _ _ a b => .fn a b) (fun _ a => .ifc a) (fun _ a => .mv a) (fun hr => .avs (h.io _ _ hr)) .nilp .nilf .nili .nilm
      .nil (fun _ _ a b => .cons a b) (fun _ a b => .one b a) (fun _ a b => .agg b a) (fun _ a => .tup a) .void .undef .nil (fun _ _ a b => .cons a b) hv
  · exact VReps.rec (motive_1 := fun v cs _ => CRep ι' O' w' v cs) (motive_2 := fun v cs _ => CReps ι' O' w' v cs) (motive_3 := fun v cs _ => VRep ι' O' w' v cs) (motive_4 := fun v cs _ => VReps ι' O' w' v cs)
      (fun h => .int h) .bool .str .nils (fun hb ho => hbytes hb ho) (fun hn hc hm he _ hd ih => hrows hn hc hm he ih hd) (fun h => .barr h) (fun a b _ c => .arr a b c) (fun _ c => .agg c) (fun hr => .ref (hr.ext h)) (fun hs _ ho hb hd ih => hvref hs ih ho hb hd) (fun hr hA hc => .own (h.io _ _ hr) hA hc) (fun hk hm hw => .win hk hm fun h0 => (hw h0).elim fun g hg => ⟨g, hg.1, hg.2.ext h⟩) (fun _ _ a b => .fn a b) (fun _ a => .ifc a) (fun _ a => .mv a) (fun hr => .avs (h.io _ _ hr)) .nilp .nilf .nili .nilm
      .nil (fun _ _ a b => .cons a b) (fun _ a b => .one b a) (fun _ a b => .agg b a) (fun _ a => .tup a) .void .undef .nil (fun _ _ a b => .cons a b) hv
theorem CRep.ext (h : Ext ι ι' O O' w w') {v cs} (hv : CRep ι O w v cs) : CRep ι' O' w' v cs := (CRep.ext_all h).1 hv
theorem CReps.ext (h : Ext ι ι' O O' w w') {v cs} (hv : CReps ι O w v cs) : CReps ι' O' w' v cs := (CRep.ext_all h).2.1 hv
theorem VRep.ext (h : Ext ι ι' O O' w w') {v cs} (hv : VRep ι O w v cs) : VRep ι' O' w' v cs := (CRep.ext_all h).2.2.1 hv
theorem VReps.ext (h : Ext ι ι' O O' w w') {v cs} (hv : VReps ι O w v cs) : VReps ι' O' w' v cs := (CRep.ext_all h).2.2.2 hv

/-! ### lists of parts -/
theorem CReps.append {l m : List V} {ds es : List Value} (h : CReps ι O w l ds) (k : CReps ι O w m es) : CReps ι O w (l ++ m) (ds ++ es) := by
  induction l generalizing ds with
  | nil => cases h; exact k
  | cons x l ih => cases h with | cons a b => rw [List.append_assoc]; exact .cons a (ih b)
theorem VReps.append {l m : List V} {ds es : List Value} (h : VReps ι O w l ds) (k : VReps ι O w m es) : VReps ι O w (l ++ m) (ds ++ es) := by
  induction l generalizing ds with
  | nil => cases h; exact k
  | cons x l ih => cases h with | cons a b => exact .cons a (ih b)
theorem VReps.length {l : List V} {ds : List Value} (h : VReps ι O w l ds) : ds.length = l.length := by
  induction l generalizing ds with
  | nil => cases h; rfl
  | cons x l ih => cases h with | cons a b => simp [ih b]
theorem VReps.take {l : List V} {ds : List Value} (h : VReps ι O w l ds) (k : Nat) : VReps ι O w (l.take k) (ds.take k) := by
  induction l generalizing ds k with
  | nil => cases h; simp; exact .nil
  | cons x l ih => cases h with | cons a b => cases k with | zero => exact .nil | succ k => exact .cons a (ih b k)
theorem VReps.drop {l : List V} {ds : List Value} (h : VReps ι O w l ds) (k : Nat) : VReps ι O w (l.drop k) (ds.drop k) := by
  induction l generalizing ds k with
  | nil => cases h; simp; exact .nil
  | cons x l ih => cases h with | cons a b => cases k with | zero => exact .cons a b | succ k => exact ih b k
end

/-! ### shapes -/
mutual
theorem Sh.beq_eq : ∀ {a b : Sh}, Sh.beq a b = true → a = b
  | .int k, b, h => by cases b <;> simp [Sh.beq] at h; subst h; rfl
  | .bool, b, h => by cases b <;> simp [Sh.beq] at h; rfl
  | .str, b, h => by cases b <;> simp [Sh.beq] at h; rfl
  | .bytes, b, h => by cases b <;> simp [Sh.beq] at h; rfl
  | .other k, b, h => by cases b <;> simp [Sh.beq] at h; subst h; rfl
  | .rows e, b, h => by cases b <;> simp [Sh.beq] at h; rw [Sh.beq_eq h]
  | .barr n, b, h => by cases b <;> simp [Sh.beq] at h; rw [h]
  | .arr n e, b, h => by cases b <;> simp [Sh.beq] at h; rw [h.1, Sh.beq_eq h.2]
  | .agg l, b, h => by cases b <;> simp [Sh.beq] at h; rw [Sh.beqs_eq h]
theorem Sh.beqs_eq : ∀ {a b : List Sh}, Sh.beqs a b = true → a = b
  | [], b, h => by cases b <;> simp [Sh.beqs] at h; rfl
  | x :: l, b, h => by
    cases b with
    | nil => simp [Sh.beqs] at h
    | cons y m => simp [Sh.beqs] at h; rw [Sh.beq_eq h.1, Sh.beqs_eq h.2]
end
mutual
theorem isR_isSh : ∀ {s : Sh} {v : V}, isR s v = true → isSh s v = true
  | .int k, v, h => by cases v <;> simp [isR] at h; simpa [isSh] using h
  | .bool, v, h => by cases v <;> simp [isR] at h; rfl
  | .str, v, h => by cases v <;> simp [isR] at h; rfl
  | .bytes, v, h => by cases v <;> simp [isR] at h; rfl
  | .other k, v, h => by cases v <;> simp [isR] at h
  | .rows e, v, h => by cases v <;> simp [isR] at h; simpa [isSh] using h
  | .barr n, v, h => by cases v <;> simp [isR] at h; simpa [isSh] using h
  | .arr n e, v, h => by cases v <;> simp [isR] at h; simpa [isSh] using h
  | .agg l, v, h => by cases v <;> simp [isR] at h; simpa [isSh] using isRs_isShs h
theorem isRs_isShs : ∀ {s : List Sh} {v : List V}, isRs s v = true → isShs s v = true
  | [], v, h => by cases v <;> simp [isRs] at h; rfl
  | a :: s, v, h => by
    cases v with
    | nil => simp [isRs] at h
    | cons x v => simp [isRs] at h; simp [isShs, isR_isSh h.1, isRs_isShs h.2]
end
section
variable {ι : Nat → Option Cn} {O : Nat → Prop} {w : World}
theorem CReps.len_of {e : Sh} (hl : ∀ {v cs}, isSh e v = true → CRep ι O w v cs → cs.length = e.size) {l : List V} {ds : List Value} (h : CReps ι O w l ds) (he : ∀ x ∈ l, isR e x = true) : ds.length = l.length * e.size := by
  induction l generalizing ds with
  | nil => cases h; simp
  | cons x l ih =>
    cases h with
    | cons a b =>
      rw [List.length_append, ih b (fun y hy => he y (by simp [hy])), hl (isR_isSh (he x (by simp))) a, List.length_cons, Nat.add_mul, Nat.one_mul, Nat.add_comm]
mutual
theorem CRep.len : ∀ {s : Sh} {v : V} {cs : List Value}, isSh s v = true → CRep ι O w v cs → cs.length = s.size
  | .int k, v, cs, h, hr => by cases v <;> simp [isSh] at h; cases hr; rfl
  | .bool, v, cs, h, hr => by cases v <;> simp [isSh] at h; cases hr; rfl
  | .str, v, cs, h, hr => by cases v <;> simp [isSh] at h; cases hr; rfl
  | .bytes, v, cs, h, hr => by cases v <;> simp [isSh] at h <;> cases hr <;> rfl
  | .other k, v, cs, h, hr => by cases k <;> cases v <;> simp [isSh] at h <;> cases hr <;> rfl
  | .rows e, v, cs, h, hr => by cases v <;> simp [isSh] at h <;> cases hr <;> rfl
  | .barr n, v, cs, h, hr => by cases v <;> simp [isSh] at h; cases hr with | barr hn => simp [Sh.size, hn, h]
  | .arr n e, v, cs, h, hr => by
    cases v <;> simp [isSh] at h
    cases hr with
    | arr hn he hr => rw [← Sh.beq_eq h.2] at he; rw [CReps.len_of (fun a b => CRep.len a b) hr he, hn, ← h.1]; rfl
  | .agg l, v, cs, h, hr => by cases v <;> simp [isSh] at h; cases hr with | agg hr => exact CReps.len h hr
theorem CReps.len : ∀ {s : List Sh} {v : List V} {cs : List Value}, isShs s v = true → CReps ι O w v cs → cs.length = Sh.sizes s
  | [], v, cs, h, hr => by cases v <;> simp [isShs] at h; cases hr; rfl
  | a :: s, v, cs, h, hr => by
    cases v with
    | nil => simp [isShs] at h
    | cons x v => simp [isShs] at h; cases hr with | cons p q => rw [List.length_append, CRep.len h.1 p, CReps.len h.2 q]; rfl
end
/-- a part of a struct: where it lies, and what changes when it is written -/
theorem CReps.part : ∀ {ss : List Sh} {l : List V} {ds : List Value} {j : Nat} {s : Sh} {v : V}, isShs ss l = true → CReps ι O w l ds → nthL ss j = some s → nthL l j = some v →
    ∃ pre cs post, ds = pre ++ (cs ++ post) ∧ pre.length = fldOff ss j ∧ cs.length = s.size ∧ CRep ι O w v cs ∧ (∀ z zs, CRep ι O w z zs → CReps ι O w (setL l j z) (pre ++ (zs ++ post)))
  | [], l, ds, j, s, v, h, hr, hj, hv => by simp [nthL] at hj
  | a :: ss, l, ds, j, s, v, h, hr, hj, hv => by
    cases l with
    | nil => simp [isShs] at h
    | cons x l =>
      simp [isShs] at h
      cases hr with
      | cons p q =>
        rename_i cs ds
        cases j with
        | zero =>
          simp [nthL] at hj hv; subst hj; subst hv
          exact ⟨[], cs, ds, rfl, rfl, CRep.len h.1 p, p, fun z zs hz => by show CReps ι O w (z :: l) (zs ++ ds); exact .cons hz q⟩
        | succ j =>
          obtain ⟨pre, ps, post, e, h1, h2, h3, h4⟩ := CReps.part h.2 q (j := j) hj hv
          subst e
          refine ⟨cs ++ pre, ps, post, by simp, by rw [List.length_append, CRep.len h.1 p, h1]; rfl, h2, h3, fun z zs hz => ?_⟩
          rw [List.append_assoc]
          exact .cons p (h4 z zs hz)
/-- an element of an array -/
theorem CReps.elem {e : Sh} {l : List V} {ds : List Value} {i : Nat} (h : CReps ι O w l ds) (he : ∀ x ∈ l, isR e x = true) (hi : i < l.length) :
    ∃ pre cs post, ds = pre ++ (cs ++ post) ∧ pre.length = i * e.size ∧ cs.length = e.size ∧ CRep ι O w l[i] cs ∧ (∀ z zs, CRep ι O w z zs → CReps ι O w (l.set i z) (pre ++ (zs ++ post))) := by
  induction l generalizing ds i with
  | nil => simp at hi
  | cons x l ih =>
    cases h with
    | cons p q =>
      rename_i cs ds
      have hl := CRep.len (isR_isSh (he x (by simp))) p
      cases i with
      | zero => exact ⟨[], cs, ds, rfl, by simp, hl, p, fun z zs hz => by show CReps ι O w (z :: l) (zs ++ ds); exact .cons hz q⟩
      | succ i =>
        obtain ⟨pre, ps, post, e1, h1, h2, h3, h4⟩ := ih q (fun y hy => he y (by simp [hy])) (i := i) (by simpa using hi)
        subst e1
        refine ⟨cs ++ pre, ps, post, by simp, by rw [List.length_append, hl, h1, Nat.add_mul, Nat.one_mul, Nat.add_comm], h2, h3, fun z zs hz => ?_⟩
        rw [List.append_assoc]
        exact .cons p (h4 z zs hz)
end
end Go.Am

namespace Go.Am
open Go Go.RowKit Go.Bas
section
variable {ι : Nat → Option Cn} {O : Nat → Prop} {w : World}
mutual
theorem Sh.beq_self : ∀ (s : Sh), Sh.beq s s = true
  | .int k => by simp [Sh.beq]
  | .bool => rfl
  | .str => rfl
  | .bytes => rfl
  | .other k => by simp [Sh.beq]
  | .rows e => by simp [Sh.beq, Sh.beq_self e]
  | .barr n => by simp [Sh.beq]
  | .arr n e => by simp [Sh.beq, Sh.beq_self e]
  | .agg l => by simp [Sh.beq, Sh.beqs_self l]
theorem Sh.beqs_self : ∀ (s : List Sh), Sh.beqs s s = true
  | [] => rfl
  | s :: r => by simp [Sh.beqs, Sh.beq_self s, Sh.beqs_self r]
end
/-! ### rows -/
/-- a row's content, and its cells -/
inductive RowC (ι : Nat → Option Cn) (O : Nat → Prop) (w : World) : Nat → Sh → V → List Value → Prop
  | bytes {l} : RowC ι O w l.length (.int .u8) (.bytes l) (l.map bv)
  | rows {e l ds} (he : ∀ x ∈ l, isR e x = true) (hr : CReps ι O w l ds) : RowC ι O w l.length e (.rows e l) ds
theorem RowC.ext {ι' : Nat → Option Cn} {O' : Nat → Prop} {w' : World} (h : Ext ι ι' O O' w w') {n e v ds} (hr : RowC ι O w n e v ds) : RowC ι' O' w' n e v ds := by
  cases hr with
  | bytes => exact .bytes
  | rows he hr => exact .rows he (hr.ext h)
theorem RowC.len {n e v ds} (hr : RowC ι O w n e v ds) : ds.length = n * e.size := by
  cases hr with
  | bytes => simp [Sh.size]
  | rows he hr => exact CReps.len_of (fun a b => CRep.len a b) hr he
theorem RowC.isRow {n e v ds} (hr : RowC ι O w n e v ds) : isRow v = true := by cases hr <;> rfl
theorem RowC.elSh {n e v ds} (hr : RowC ι O w n e v ds) : elSh v = e := by cases hr <;> rfl
/-! ### memory -/
def isView : Blk → Bool
  | .view _ => true
  | _ => false
def cnBlk : Cn → Option Nat
  | .var g _ => some g
  | .row (some a) _ _ _ _ => some a.block
  | .row none _ _ _ _ => none
/-- block b is the call's own now, number id -/
def Mine (ι : Nat → Option Cn) (hp : Nat → Option Blk) (id b : Nat) : Prop := ∃ k c, hp id = some k ∧ isView k = false ∧ ι id = some c ∧ cnBlk c = some b
/-- the blocks that are somebody's alone -/
def Ex1 (ι : Nat → Option Cn) (hp : Nat → Option Blk) (O : Nat → Prop) : Nat → Prop := fun b => O b ∨ ∃ id, Mine ι hp id b

inductive BRep (ι : Nat → Option Cn) (X : Nat → Prop) (w : World) (id : Nat) : Blk → Prop
  | var {sh v g ds T} (hi : ι id = some (.var g sh)) (hs : isSh sh v = true) (hg : Bas.Blk w g T ds) (hr : CRep ι X w v ds) : BRep ι X w id (.var sh v)
  | row {T sh v A n c ds} (hi : ι id = some (.row A n c T sh)) (hr : RowC ι X w n sh v ds) (ho : w.ownsRow 0 T sh.size (.slice A n c) n ds) : BRep ι X w id (.row T sh v)
  | view {v A n c T sh} (hi : ι id = some (.row A n c T sh)) (hr : CRep ι X w v [.slice A n c]) (hw : isRow v = true) (he : elSh v = sh) : BRep ι X w id (.view v)

/-- a world, and the blocks of it that stay as they are -/
structure Zone where
  w : World
  old : Nat → Prop
  good : LaidW w
  tab : ∀ p ∈ goods, old p.1
structure Keeps (old : Nat → Prop) (w w' : World) : Prop where
  os : w'.os = w.os
  tape : w'.tape = w.tape
  output : w'.output = w.output
  size : w.heap.size ≤ w'.heap.size
  block : ∀ k, old k → w'.heap[k]? = w.heap[k]?
theorem Keeps.refl (old : Nat → Prop) (w : World) : Keeps old w w := ⟨rfl, rfl, rfl, Nat.le_refl _, fun _ _ => rfl⟩
theorem Keeps.trans {old : Nat → Prop} {a b c : World} (h : Keeps old a b) (k : Keeps old b c) : Keeps old a c :=
  ⟨k.os.trans h.os, k.tape.trans h.tape, k.output.trans h.output, Nat.le_trans h.size k.size, fun i hi => (k.block i hi).trans (h.block i hi)⟩
theorem Keeps.below {w w' : World} (h : Keeps (fun b => b < w.heap.size) w w') : Below w.heap.size w w' := ⟨h.os, h.tape, h.output, h.size, h.block⟩
structure HSim (ι : Nat → Option Cn) (O : Nat → Prop) (w0 : Zone) (hp : Nat → Option Blk) (w : World) : Prop where
  below : Keeps w0.old w0.w w
  old_lt : ∀ b, w0.old b → b < w0.w.heap.size
  outer : ∀ b, O b → w0.old b
  blk : ∀ id k, hp id = some k → BRep ι (Ex1 ι hp O) w id k
  one : ∀ id id' b, Mine ι hp id b → Mine ι hp id' b → id = id'
  fresh : ∀ id b, Mine ι hp id b → ¬ w0.old b ∧ b < w.heap.size
theorem HSim.good {ι : Nat → Option Cn} {O : Nat → Prop} {w0 : Zone} {hp : Nat → Option Blk} {w : World} (h : HSim ι O w0 hp w) : LaidW w := w0.good.keep fun p hp => h.below.block _ (w0.tab p hp)
theorem HSim.lt {ι : Nat → Option Cn} {O : Nat → Prop} {w0 : Zone} {hp : Nat → Option Blk} {w : World} (h : HSim ι O w0 hp w) {b : Nat} (hb : w0.old b) : b < w.heap.size := Nat.lt_of_lt_of_le (h.old_lt b hb) h.below.size
end
end Go.Am

namespace Go.Am
open Go Go.RowKit Go.Bas
def updH : List (Nat × Option Blk) → (Nat → Option Blk) → Nat → Option Blk
  | [], hp, id => hp id
  | (a, v) :: r, hp, id => if a = id then v else updH r hp id
section
variable {ι ι' : Nat → Option Cn} {O : Nat → Prop} {w0 : Zone} {w w' : World} {hp hp' : Nat → Option Blk}
theorem lookH_append (wr : List (Nat × Option Blk)) (l : List (Nat × Option Blk)) : lookH (wr ++ l) = updH wr (lookH l) := by
  induction wr with
  | nil => rfl
  | cons a wr ih =>
    funext id
    obtain ⟨x, v⟩ := a
    simp only [List.cons_append, lookH, updH, ih]
    by_cases h : x = id
    · subst h; simp
    · have hb : Nat.beq x id = false := Bool.eq_false_iff.2 (fun hb => h (Nat.eq_of_beq_eq_true hb))
      rw [if_neg h, hb]; rfl
theorem HSim.known (h : HSim ι O w0 hp w) {id : Nat} {k : Blk} (hk : hp id = some k) : ∃ c, ι id = some c := by
  cases h.blk id k hk with
  | var hi => exact ⟨_, hi⟩
  | row hi => exact ⟨_, hi⟩
  | view hi => exact ⟨_, hi⟩
theorem HSim.size (h : HSim ι O w0 hp w) : w0.w.heap.size ≤ w.heap.size := h.below.size
theorem HSim.mine_not_outer (h : HSim ι O w0 hp w) {id b : Nat} (hm : Mine ι hp id b) : ¬ O b := fun ho => (h.fresh id b hm).1 (h.outer b ho)
theorem ownsRow_same {base : Nat} {T : TypeId} {size n c m : Nat} {A : Option Addr} {ds : List Value} (h : w.ownsRow base T size (.slice A n c) m ds) (hs : ∀ a, A = some a → w'.heap[a.block]? = w.heap[a.block]?) : w'.ownsRow base T size (.slice A n c) m ds := by
  refine ⟨h.1, ?_⟩
  rcases h.2 with h1 | ⟨g, cap, cur, e, hb, hg, r⟩
  · exact .inl h1
  · injection e with e1 e2 e3
    exact .inr ⟨g, cap, cur, by rw [e1, e2, e3], hb, (hs _ e1).trans hg, r⟩
/-- the memory after a step: T are the blocks that were written -/
theorem HSim.upd (h : HSim ι O w0 hp w) (T : Nat → Prop) (he : Ext ι ι' (Ex1 ι hp O) (Ex1 ι' hp' O) w w') (hb : Keeps w0.old w w')
    (hT : ∀ b, b < w.heap.size → ¬ T b → w'.heap[b]? = w.heap[b]?)
    (hk : ∀ id k, hp' id = some k → (hp id = some k ∧ ∀ b, Mine ι hp id b → ¬ T b) ∨ BRep ι' (Ex1 ι' hp' O) w' id k)
    (h1 : ∀ id id' b, Mine ι' hp' id b → Mine ι' hp' id' b → id = id') (hf : ∀ id b, Mine ι' hp' id b → ¬ w0.old b ∧ b < w'.heap.size) : HSim ι' O w0 hp' w' := by
  refine ⟨h.below.trans hb, h.old_lt, h.outer, fun id k hq => ?_, h1, hf⟩
  rcases hk id k hq with ⟨h2, h3⟩ | h2
  · cases h.blk id k h2 with
    | var hi hs hg hr =>
      rename_i sh v g ds ty
      have hm : Mine ι hp id g := ⟨_, _, h2, rfl, hi, rfl⟩
      have := hT g (h.fresh id g hm).2 (h3 g hm)
      refine .var (he.io _ _ hi) hs (?_ : Bas.Blk w' g ty ds) (hr.ext he)
      unfold Bas.Blk at *
      rw [this]; exact hg
    | row hi hr ho =>
      rename_i ty sh v A n c ds
      refine .row (he.io _ _ hi) (hr.ext he) (ownsRow_same ho fun a ha => ?_)
      subst ha
      have hm : Mine ι hp id a.block := ⟨_, _, h2, rfl, hi, rfl⟩
      exact hT _ (h.fresh id _ hm).2 (h3 _ hm)
    | view hi hr hw hs => exact .view (he.io _ _ hi) (hr.ext he) hw hs
  · exact h2
theorem updH_one {a : Nat} {v : Option Blk} {id : Nat} : updH [(a, v)] hp id = if a = id then v else hp id := rfl
/-- a block of the call's own is written -/
theorem HSim.write (h : HSim ι O w0 hp w) {id : Nat} {k k' : Blk} (hk : hp id = some k) (hv : isView k = false) (hb : Keeps w0.old w w') (hsz : w'.heap.size = w.heap.size)
    (hTw : ∀ b, b < w.heap.size → ¬ Mine ι hp id b → w'.heap[b]? = w.heap[b]?) :
    Ext ι ι (Ex1 ι hp O) (Ex1 ι (updH [(id, some k')] hp) O) w w' ∧
    (BRep ι (Ex1 ι (updH [(id, some k')] hp) O) w' id k' → HSim ι O w0 (updH [(id, some k')] hp) w') := by
  have mine : ∀ i b, Mine ι (updH [(id, some k')] hp) i b → Mine ι hp i b := by
    rintro i b ⟨kk, c, h1, h2, h3, h4⟩
    rw [updH_one] at h1
    by_cases hi : id = i
    · subst hi
      exact ⟨k, c, hk, hv, h3, h4⟩
    · rw [if_neg hi] at h1
      exact ⟨kk, c, h1, h2, h3, h4⟩
  have he : Ext ι ι (Ex1 ι hp O) (Ex1 ι (updH [(id, some k')] hp) O) w w' := by
    refine ⟨by omega, fun _ _ h => h, fun b hlt hx => hTw b hlt fun hm => hx (.inr ⟨id, hm⟩), fun b hx => ?_⟩
    rcases hx with hx | ⟨i, hm⟩
    · exact .inl (.inl hx)
    · exact .inl (.inr ⟨i, mine i b hm⟩)
  refine ⟨he, fun hB => h.upd (fun b => Mine ι hp id b) he hb hTw ?_ ?_ ?_⟩
  · intro i kk hq
    rw [updH_one] at hq
    by_cases hi : id = i
    · subst hi
      rw [if_pos rfl] at hq
      injection hq with hq; subst hq
      exact .inr hB
    · rw [if_neg hi] at hq
      exact .inl ⟨hq, fun b hm hm' => hi (h.one _ _ _ hm' hm)⟩
  · intro i i' b h1 h2
    exact h.one i i' b (mine i b h1) (mine i' b h2)
  · intro i b hm
    have := h.fresh i b (mine i b hm)
    exact ⟨this.1, by omega⟩
end
end Go.Am

namespace Go.Am
open Go Go.RowKit Go.Bas
section
variable {ι : Nat → Option Cn} {O : Nat → Prop} {w0 : Zone} {w w' : World} {hp : Nat → Option Blk} {P : Program}

/-! ### what stands for a value -/
theorem VRep.bool_inv {b c} (h : VRep ι O w (.bool b) c) : c = .bool b := by
  cases h with
  | one h ha => cases h; rfl
  | agg h ha => cases ha
theorem VRep.bytes_inv {l c} (h : VRep ι O w (.bytes l) c) : ∃ A n k, c = .slice A n k ∧ Bs w A n k l ∧ (l ≠ [] → ∀ b off, A = some ⟨b, off, none⟩ → ¬ O b) := by
  cases h with
  | one h ha => cases h with | bytes h1 h2 => exact ⟨_, _, _, rfl, h1, h2⟩
  | agg h ha => cases ha
theorem VReps.one_inv {v : V} {cs : List Value} (h : VReps ι O w [v] cs) : ∃ c, cs = [c] ∧ VRep ι O w v c := by
  cases h with | cons a b => cases b; exact ⟨_, rfl, a⟩
theorem VRep.i {k : IntKind} {n : Int} (h : k = .u8 → 0 ≤ n ∧ n < 256) : VRep ι O w (.int k n) (.int k n) := .one (.int h) rfl
theorem VRep.b {b : Bool} : VRep ι O w (.bool b) (.bool b) := .one .bool rfl
theorem VRep.s {l : List UInt8} : VRep ι O w (.str l) (.string ⟨l.toArray⟩) := .one .str rfl

/-- the operation yields c -/
def Does (P : Program) (o : Oper) (a : Act) (w : World) (w' : World) (c : Value) : Prop :=
  (execOp a.eval o).run P w = .ok (.value c) w' ∨ ((execOp a.eval o).run P w = .ok .skip w' ∧ c = Go.undef)
theorem Does.wp {o : Oper} {a : Act} {w w' : World} {c : Value} (h : Does P o a w w' c) {K : Act → World → Prop} {Q : Exit → Act → World → Prop} (hK : K (a.put o.dst c) w') : o.wp P a w K Q := by
  unfold Oper.wp
  rcases h with h | ⟨h, rfl⟩
  · rw [h]; exact hK
  · rw [h]; exact hK

/-! ### integers, bools, strings -/
end
end Go.Am

namespace Go.Am
open Go Go.RowKit Go.Bas
section
variable {ι : Nat → Option Cn} {O : Nat → Prop} {w0 : Zone} {w : World} {hp : Nat → Option Blk} {P : Program}

/-! ### equality -/
end
end Go.Am

namespace Go.Am
open Go Go.RowKit Go.Bas
section
variable {ι : Nat → Option Cn} {O : Nat → Prop} {w0 : Zone} {w : World} {hp : Nat → Option Blk} {P : Program}

/-! ### strings -/
/-! ### binOp, unOp -/
/-! ### addresses -/
/-! ### loads -/
end
end Go.Am

namespace Go.Am
open Go Go.RowKit Go.Bas
section
variable {ι : Nat → Option Cn} {O : Nat → Prop} {w0 : Zone} {w : World} {hp : Nat → Option Blk} {P : Program}
theorem nthL_eq {α : Type} : ∀ (l : List α) (j : Nat), nthL l j = l[j]?
  | [], _ => rfl
  | _ :: _, 0 => rfl
  | _ :: l, j + 1 => by simpa [nthL] using nthL_eq l j
/-! ### paths -/
/-! ### what lies there -/
/-! ### the operations -/
/-! ### parts of values -/
end
end Go.Am

namespace Go.Am
open Go Go.RowKit Go.Bas
section
variable {ι : Nat → Option Cn} {O : Nat → Prop} {w0 : Zone} {w : World} {hp : Nat → Option Blk} {P : Program}

/-! ### zero values -/
/-! ### new variables -/
theorem VRep.cells {X : Nat → Prop} {v : V} {c : Value} (h : VRep ι X w v c) {sh : Sh} (hs : isSh sh v = true) : CRep ι X w v c.cells.toList := by
  cases h with
  | one h ha =>
    have hc : ∀ cs, c ≠ .agg cs := by
      rintro cs rfl
      cases v <;> first | (cases ha; done) | (cases h; done)
    have : c.cells = #[c] := by cases c <;> first | rfl | exact absurd rfl (hc _)
    rw [this]
    exact h
  | agg h ha => exact h
  | tup _ => cases sh with
    | other k => cases k <;> simp [isSh] at hs
    | _ => simp [isSh] at hs
  | void => cases sh with
    | other k => cases k <;> simp [isSh] at hs
    | _ => simp [isSh] at hs
  | undef => cases sh with
    | other k => cases k <;> simp [isSh] at hs
    | _ => simp [isSh] at hs
/-! ### stores -/
theorem CReps.ones_of {X : Nat → Prop} {e : Sh} (hl : ∀ {v cs}, isSh e v = true → CRep ι X w v cs → ∀ c ∈ cs, c.oneCell' = true) {l : List V} {ds : List Value} (h : CReps ι X w l ds) (he : ∀ x ∈ l, isR e x = true) : ∀ c ∈ ds, c.oneCell' = true := by
  induction l generalizing ds with
  | nil => cases h; simp
  | cons x l ih =>
    cases h with
    | cons p q =>
      intro c hc
      rcases List.mem_append.1 hc with hc | hc
      · exact hl (isR_isSh (he x (by simp))) p c hc
      · exact ih q (fun y hy => he y (by simp [hy])) c hc
mutual
theorem CRep.ones : ∀ {s : Sh} {v : V} {cs : List Value} {X : Nat → Prop}, isSh s v = true → CRep ι X w v cs → ∀ c ∈ cs, c.oneCell' = true
  | .int k, v, cs, X, h, hr => by cases v <;> simp [isSh] at h; cases hr; simp [Value.oneCell']
  | .bool, v, cs, X, h, hr => by cases v <;> simp [isSh] at h; cases hr; simp [Value.oneCell']
  | .str, v, cs, X, h, hr => by cases v <;> simp [isSh] at h; cases hr; simp [Value.oneCell']
  | .bytes, v, cs, X, h, hr => by cases v <;> simp [isSh] at h <;> cases hr <;> simp [Value.oneCell']
  | .other k, v, cs, X, h, hr => by cases k <;> cases v <;> simp [isSh] at h <;> cases hr <;> simp [Value.oneCell'] <;> simp at h
  | .rows e, v, cs, X, h, hr => by cases v <;> simp [isSh] at h <;> cases hr <;> simp [Value.oneCell']
  | .barr n, v, cs, X, h, hr => by cases v <;> simp [isSh] at h; cases hr; exact bv_one _
  | .arr n e, v, cs, X, h, hr => by
    cases v <;> simp [isSh] at h
    cases hr with
    | arr hn he hr =>
      rw [← Sh.beq_eq h.2] at he
      exact CReps.ones_of (fun a b => CRep.ones a b) hr he
  | .agg l, v, cs, X, h, hr => by cases v <;> simp [isSh] at h; cases hr with | agg hr => exact CReps.ones h hr
theorem CReps.ones : ∀ {s : List Sh} {v : List V} {cs : List Value} {X : Nat → Prop}, isShs s v = true → CReps ι X w v cs → ∀ c ∈ cs, c.oneCell' = true
  | [], v, cs, X, h, hr => by cases v <;> simp [isShs] at h; cases hr; simp
  | a :: s, v, cs, X, h, hr => by
    cases v with
    | nil => simp [isShs] at h
    | cons x v =>
      simp [isShs] at h
      cases hr with
      | cons p q =>
        intro c hc
        rcases List.mem_append.1 hc with hc | hc
        · exact CRep.ones h.1 p c hc
        · exact CReps.ones h.2 q c hc
end
end
end Go.Am

namespace Go.Am
open Go Go.RowKit Go.Bas
abbrev no : Nat → Option Cn := fun _ => none
section
variable {ι : Nat → Option Cn} {O : Nat → Prop} {w0 : Zone} {w : World} {hp : Nat → Option Blk} {P : Program}

/-! ### values that point to nothing of the call's own -/
theorem CReps.any_of {ι' : Nat → Option Cn} {X : Nat → Prop} {e : Sh} (hl : ∀ {v cs}, isR e v = true → CRep ι X w v cs → CRep ι' X w v cs) {l : List V} {ds : List Value} (h : CReps ι X w l ds) (he : ∀ x ∈ l, isR e x = true) : CReps ι' X w l ds := by
  induction l generalizing ds with
  | nil => cases h; exact .nil
  | cons x l ih =>
    cases h with
    | cons p q => exact .cons (hl (he x (by simp)) p) (ih q (fun y hy => he y (by simp [hy])))
mutual
theorem CRep.any {ι' : Nat → Option Cn} {X : Nat → Prop} : ∀ {s : Sh} {v : V} {cs : List Value}, isR s v = true → CRep ι X w v cs → CRep ι' X w v cs
  | .int k, v, cs, h, hr => by cases v <;> simp [isR] at h; cases hr with | int h => exact .int h
  | .bool, v, cs, h, hr => by cases v <;> simp [isR] at h; cases hr; exact .bool
  | .str, v, cs, h, hr => by cases v <;> simp [isR] at h; cases hr; exact .str
  | .bytes, v, cs, h, hr => by cases v <;> simp [isR] at h; cases hr with | bytes a b => exact .bytes a b
  | .other k, v, cs, h, hr => by cases v <;> simp [isR] at h
  | .rows e, v, cs, h, hr => by
    cases v <;> simp [isR] at h
    cases hr with
    | rows a b c d e' f =>
      rename_i e2 l _ _ _ _
      have := Sh.beq_eq h
      subst this
      exact .rows a b c d (CReps.any_of (fun p q => CRep.any p q) e' d) f
  | .barr n, v, cs, h, hr => by cases v <;> simp [isR] at h; cases hr with | barr a => exact .barr a
  | .arr n e, v, cs, h, hr => by
    cases v <;> simp [isR] at h
    cases hr with
    | arr a b c =>
      have := Sh.beq_eq h.2
      subst this
      exact .arr a b (CReps.any_of (fun p q => CRep.any p q) c b)
  | .agg l, v, cs, h, hr => by cases v <;> simp [isR] at h; cases hr with | agg hr => exact .agg (CReps.any h hr)
theorem CReps.any {ι' : Nat → Option Cn} {X : Nat → Prop} : ∀ {s : List Sh} {v : List V} {cs : List Value}, isRs s v = true → CReps ι X w v cs → CReps ι' X w v cs
  | [], v, cs, h, hr => by cases v <;> simp [isRs] at h; cases hr; exact .nil
  | a :: s, v, cs, h, hr => by
    cases v with
    | nil => simp [isRs] at h
    | cons x v => simp [isRs] at h; cases hr with | cons p q => exact .cons (CRep.any h.1 p) (CReps.any h.2 q)
end
theorem row_any {ι' : Nat → Option Cn} {X : Nat → Prop} {v : V} {cs : List Value} (hw : isRow v = true) (h : CRep ι X w v cs) : CRep ι' X w v cs := by
  cases v <;> simp [isRow] at hw
  · exact CRep.any (s := .bytes) rfl h
  · rename_i e l; exact CRep.any (s := .rows e) (by simp [isR, Sh.beq_self]) h
theorem CReps.split {X : Nat → Prop} {e : Sh} {l1 l2 : List V} {ds : List Value} (h : CReps ι X w (l1 ++ l2) ds) (he : ∀ x ∈ l1, isR e x = true) : ∃ d1 d2, ds = d1 ++ d2 ∧ d1.length = l1.length * e.size ∧ CReps ι X w l1 d1 ∧ CReps ι X w l2 d2 := by
  induction l1 generalizing ds with
  | nil => exact ⟨[], ds, rfl, by simp, .nil, h⟩
  | cons x l1 ih =>
    cases h with
    | cons p q =>
      obtain ⟨d1, d2, rfl, h1, h2, h3⟩ := ih q (fun y hy => he y (by simp [hy]))
      have := CRep.len (isR_isSh (he x (by simp))) p
      exact ⟨_ ++ d1, d2, by simp, by rw [List.length_append, this, h1, List.length_cons, Nat.add_mul, Nat.one_mul, Nat.add_comm], .cons p h2, h3⟩
/-! ### parts of arrays and rows -/
/-- variables that are lent are read alone meanwhile -/
def LentV (vw : Bool) (ι : Nat → Option Cn) (hp : Nat → Option Blk) (X1 : Nat → Prop) (l : List Nat) : Prop := vw = true → ∀ i ∈ l, ∀ g s, ι i = some (.var g s) → ∀ b, Mine ι hp i b → ¬ X1 b
theorem LentV.no {X1 : Nat → Prop} {l : List Nat} : LentV false ι hp X1 l := fun h => by cases h
/- no variable is lent -/
/-! ### flat values -/
theorem CReps.flat_of {X Y : Nat → Prop} {e : Sh} (hl : ∀ {v cs}, isR e v = true → CRep ι X w v cs → CRep ι Y w v cs) {l : List V} {ds : List Value} (h : CReps ι X w l ds) (he : ∀ x ∈ l, isR e x = true) : CReps ι Y w l ds := by
  induction l generalizing ds with
  | nil => cases h; exact .nil
  | cons x l ih =>
    cases h with
    | cons p q => exact .cons (hl (he x (by simp)) p) (ih q (fun y hy => he y (by simp [hy])))
mutual
theorem flatS_rep {X Y : Nat → Prop} : ∀ {s : Sh} {v : V} {cs : List Value}, flatS s = true → isR s v = true → CRep ι X w v cs → CRep ι Y w v cs
  | .int k, v, cs, hf, h, hr => by cases v <;> simp [isR] at h; cases hr with | int h => exact .int h
  | .bool, v, cs, hf, h, hr => by cases v <;> simp [isR] at h; cases hr; exact .bool
  | .str, v, cs, hf, h, hr => by cases v <;> simp [isR] at h; cases hr; exact .str
  | .bytes, v, cs, hf, h, hr => by cases hf
  | .other k, v, cs, hf, h, hr => by cases hf
  | .rows e, v, cs, hf, h, hr => by cases hf
  | .barr n, v, cs, hf, h, hr => by cases v <;> simp [isR] at h; cases hr with | barr a => exact .barr a
  | .arr n e, v, cs, hf, h, hr => by
    cases v <;> simp [isR] at h
    simp only [flatS] at hf
    cases hr with
    | arr a b c =>
      have := Sh.beq_eq h.2
      subst this
      exact .arr a b (CReps.flat_of (fun p q => flatS_rep hf p q) c b)
  | .agg l, v, cs, hf, h, hr => by cases v <;> simp [isR] at h; cases hr with | agg hr => exact .agg (flatSs_rep hf h hr)
theorem flatSs_rep {X Y : Nat → Prop} : ∀ {s : List Sh} {v : List V} {cs : List Value}, flatSs s = true → isRs s v = true → CReps ι X w v cs → CReps ι Y w v cs
  | [], v, cs, hf, h, hr => by cases v <;> simp [isRs] at h; cases hr; exact .nil
  | a :: s, v, cs, hf, h, hr => by
    cases v with
    | nil => simp [isRs] at h
    | cons x v =>
      simp [isRs] at h
      simp only [flatSs, Bool.and_eq_true] at hf
      cases hr with | cons p q => exact .cons (flatS_rep hf.1 h.1 p) (flatSs_rep hf.2 h.2 q)
end
theorem RowC.flat {X Y : Nat → Prop} {n : Nat} {e : Sh} {v : V} {ds : List Value} {T : TypeId} (h : RowC ι X w n e v ds) (hf : flatV (.ownv T v) = true) : RowC ι Y w n e v ds := by
  cases h with
  | bytes => exact .bytes
  | rows he hr => exact .rows he (CReps.flat_of (fun p q => flatS_rep (by simpa [flatV] using hf) p q) hr he)
end
end Go.Am

namespace Go.Am
open Go Go.RowKit Go.Bas
section
variable {ι : Nat → Option Cn} {O : Nat → Prop} {w0 : Zone} {w : World} {hp : Nat → Option Blk} {P : Program}

/-- what a call hands over -/
inductive OutRep (O : Nat → Prop) (w w' : World) : V → Value → Prop
  | val {v c} (h : VRep no O w' v c) : OutRep O w w' v c
  | own {T v A n k ds} (h : RowC no (fun b => O b ∨ A.map (·.block) = some b) w' n (elSh v) v ds) (ho : w'.ownsRow w.heap.size T (elSh v).size (.slice A n k) n ds) : OutRep O w w' (.ownv T v) (.slice A n k)
  | tup {T v A n k ds r cs} (h : RowC no (fun b => O b ∨ A.map (·.block) = some b) w' n (elSh v) v ds) (ho : w'.ownsRow w.heap.size T (elSh v).size (.slice A n k) n ds) (hr : VReps no (fun b => O b ∨ A.map (·.block) = some b) w' r cs) : OutRep O w w' (.tup (.ownv T v :: r)) (.tuple (.slice A n k :: cs).toArray)
/-- a function, of values: whatever world it is called in -/
def SpecV (P : Program) (f : FuncId) (vs : List V) (v : V) : Prop :=
  ∀ (O : Nat → Prop) (w : World) (cs : List Value), OOk O w → VReps no O w vs cs →
    Calls P f cs.toArray w fun e w' => Below w.heap.size w w' ∧ ∃ c, e = .returned c ∧ OutRep O w w' v c
/-- a function that puts bytes behind those of a row, and hands the row back -/
def AppS (P : Program) (f : FuncId) (T : TypeId) (F : List V → Option (List UInt8 × Bool)) : Prop := ∀ (as : List V) (y : List UInt8), F as = some (y, true) → ∀ (w : World) (A : Option Addr) (n k : Nat) (l : List UInt8) (ds : List Value),
  w.ownsRow 0 T 1 (.slice A n k) n (l.map bv) → n = l.length → n + y.length ≤ 140737488355328 → VReps no (fun _ => False) w as ds → LaidW w ∧ (∀ p ∈ goods, some p.1 ≠ (Value.slice A n k).ownBlock) →
  Calls P f (Value.slice A n k :: ds).toArray w fun e w' => ∃ A' k', e = .returned (.slice A' (n + y.length) k') ∧ w'.ownsRow 0 T 1 (.slice A' (n + y.length) k') (n + y.length) ((l ++ y).map bv) ∧
    w.grownBy w' (Value.slice A n k).ownBlock ∧ ∀ a, A' = some a → A.map (·.block) = some a.block ∨ w.heap.size ≤ a.block
/-- what is known of who is called holds -/
def GOk (P : Program) (G : List (Nat × Con)) : Prop := (∀ f ps F, look G f = some (.val ps F) →
  (∀ (args : Array Value) (w : World), (callFunc f args).run P w = .ok (.enter f args) w) ∧ ∀ vs v, F vs = some (v, true) → SpecV P f vs v) ∧
  (∀ f T F, look G f = some (.app T F) → (∀ (args : Array Value) (w : World), (callFunc f args).run P w = .ok (.enter f args) w) ∧ AppS P f T F)

/-- a function that gives up -/
def SpecN (P : Program) (f : FuncId) (vs : List V) (ch : List PanicEntry) : Prop :=
  ∀ (O : Nat → Prop) (w : World) (cs : List Value), OOk O w → VReps no O w vs cs →
    Calls P f cs.toArray w fun e w' => Below w.heap.size w w' ∧ e = .panicked ch
/-! ### slices -/
/-! ### lengths, least, greatest, conversions -/
end
end Go.Am
