/- The abstract machine: how code runs. Nothing is proved here. -/
import Derived.Test.YthbllfhaaidhjaaAma
namespace Go.Am
open Go Go.RowKit Go.Bas
def u8Ok (k : IntKind) (n : Int) : Bool :=
  match k with
  | .u8 => decide (0 ≤ n) && decide (n < 256)
  | _ => true
def cv : Value → Option V
  | .int k n => bif u8Ok k n then some (.int k n) else none
  | .bool b => some (.bool b)
  | .string s => some (.str s.data.toList)
  | .slice none 0 0 => some .nils
  | .pointer none => some (.nil .ptr)
  | .nilFunc => some (.nil .func)
  | .nilIface => some (.nil .iface)
  | .map none => some (.nil .map)
  | _ => none

def evO (sl : List (Nat × V)) : Operand → Option V
  | .tmp t => look sl t
  | .const v => cv v
  | .func f => some (.fn f [] [])
  | .global _ => none

/-! ### code -/
inductive Ex where
  | normal
  | exit (id : Nat)
  | ret
inductive Tr where
  | leaf (e : Ex) (s : S)
  | br (b : Bool) (x y : Tr)
/-- what is said of a loop: it is walked round by round; or: the slots that live on, the numbers that stay, what it comes to -/
inductive An where
  | unr (n : Nat)
  | sum (ts vs : List Nat) (g : S → Option Tr)
/-- code whose loops bear what they come to -/
inductive AC where
  | skip
  | region (id : Nat) (ops : List Oper) (draw : Bool)
  | seq (a b : AC)
  | cond (c : Operand) (x y : AC)
  | block (id : Nat) (c : AC)
  | loop (c : AC) (ts vs : List Nat) (g : S → Option Tr)
  | unr (n : Nat) (c : AC)
  | exit (id : Nat)
  | ret
  | bad (c : Code)
def AC.erase : AC → Code
  | .skip => .skip
  | .region id ops d => .region id ops.toArray d
  | .seq a b => .seq a.erase b.erase
  | .cond c x y => .cond c x.erase y.erase
  | .block id c => .block id c.erase
  | .loop c _ _ _ => .loop c.erase
  | .unr _ c => .loop c.erase
  | .exit id => .exit id
  | .ret => .ret
  | .bad c => c
def annL (c : Code) : AC × List An → AC × List An
  | (x, .sum ts vs g :: r) => (.loop x ts vs g, r)
  | (x, .unr n :: r) => (.unr n x, r)
  | (_, []) => (.bad (.loop c), [])
def annot : Code → List An → AC × List An
  | .skip, l => (.skip, l)
  | .region id ops d, l => (.region id ops.toList d, l)
  | .seq a b, l => (.seq (annot a l).1 (annot b (annot a l).2).1, (annot b (annot a l).2).2)
  | .cond c x y, l => (.cond c (annot x l).1 (annot y (annot x l).2).1, (annot y (annot x l).2).2)
  | .block id c, l => (.block id (annot c l).1, (annot c l).2)
  | .loop c, l => annL c (annot c l)
  | .exit id, l => (.exit id, l)
  | .ret, l => (.ret, l)
  | c, l => (.bad c, l)

/-! ### a state with few slots, its numbers counted anew -/
def idxN : List Nat → Nat → Option Nat
  | [], _ => none
  | x :: l, i => bif Nat.beq x i then some 0 else match idxN l i with
    | some j => some (j + 1)
    | none => none
mutual
def renV (ρ : Nat → Option Nat) : V → Option V
  | .ref id p off sh => match ρ id with
    | some j => some (.ref j p off sh)
    | none => none
  | .own id n sh => match ρ id with
    | some j => some (.own j n sh)
    | none => none
  | .agg l => match renVs ρ l with
    | some l' => some (.agg l')
    | none => none
  | .int k n => some (.int k n)
  | .bool b => some (.bool b)
  | .str l => some (.str l)
  | .nils => some .nils
  | .bytes l => some (.bytes l)
  | .rows e l => some (.rows e l)
  | .barr n l => some (.barr n l)
  | .arr e n l => some (.arr e n l)
  | .vref s v => some (.vref s v)
  | .nil k => some (.nil k)
  | .void => some .void
  | .undef => some .undef
  | .fn f a b => match renVs ρ a with
    | some a' => match renVs ρ b with
      | some b' => some (.fn f a' b')
      | none => none
    | none => none
  | .tup l => match renVs ρ l with
    | some l' => some (.tup l')
    | none => none
  | _ => none
def renVs (ρ : Nat → Option Nat) : List V → Option (List V)
  | [] => some []
  | v :: l => match renV ρ v with
    | some x => match renVs ρ l with
      | some y => some (x :: y)
      | none => none
    | none => none
end
def renB (ρ : Nat → Option Nat) : Blk → Option Blk
  | .var sh v => match renV ρ v with
    | some v' => some (.var sh v')
    | none => none
  | b => some b
def addN (L : List Nat) : List Nat → List Nat
  | [] => L
  | x :: r => match idxN L x with
    | some _ => addN L r
    | none => addN (L ++ [x]) r
/-- the slots that are kept -/
def keepS (s : S) : List Nat → Option (List (Nat × V))
  | [] => some []
  | t :: r => match look s.sl t with
    | some v => match keepS s r with
      | some l => some ((t, v) :: l)
      | none => none
    | none => none
def renS (ρ : Nat → Option Nat) : List (Nat × V) → Option (List (Nat × V))
  | [] => some []
  | (t, v) :: r => match renV ρ v with
    | some x => match renS ρ r with
      | some l => some ((t, x) :: l)
      | none => none
    | none => none
def keepB (hp : Nat → Option Blk) (ρ : Nat → Option Nat) : Nat → List Nat → Option (List (Nat × Option Blk))
  | _, [] => some []
  | j, id :: r => match hp id with
    | some b => match renB ρ b with
      | some b' => match keepB hp ρ (j + 1) r with
        | some l => some ((j, some b') :: l)
        | none => none
      | none => none
    | none => match keepB hp ρ (j + 1) r with
      | some l => some ((j, none) :: l)
      | none => none
def blkIds : Option Blk → List Nat
  | some (.var _ v) => ids v
  | _ => []
def closeN (hp : Nat → Option Blk) (L : List Nat) : List Nat := addN L (L.flatMap fun i => blkIds (hp i))
/-- the slots ts alone, their blocks counted from 0 -/
def norm (ts : List Nat) (s : S) : Option (List Nat × S) :=
  match keepS s ts with
  | some l =>
    let L := closeN (lookH s.hp) (closeN (lookH s.hp) (addN [] (idss (l.map (·.2)))))
    match renS (idxN L) l with
    | some sl => match keepB (lookH s.hp) (idxN L) 0 L with
      | some hp => some (L, ⟨sl, hp, L.length, true, s.n⟩)
      | none => none
    | none => none
  | none => none
/-- the numbers vs stand for themselves -/
def fixOk (L : List Nat) : List Nat → Bool
  | [] => true
  | v :: r => (match nthL L v with | some x => Nat.beq x v | none => false) && fixOk L r
/-- the numbers vs are variables -/
def varsOk (s : S) : List Nat → Bool
  | [] => true
  | v :: r => (match lookH s.hp v with | some (.var _ _) => true | _ => false) && varsOk s r
def isIn (x : Nat) : List Nat → Bool
  | [] => false
  | y :: l => Nat.beq x y || isIn x l
def backR (L vs : List Nat) (nx j : Nat) : Option Nat := bif isIn j vs then nthL L j else some (nx + j)
def backB (ρ : Nat → Option Nat) : List (Nat × Option Blk) → Option (List (Nat × Option Blk))
  | [] => some []
  | (j, b) :: r => match ρ j with
    | some i => match b with
      | some k => match renB ρ k with
        | some k' => match backB ρ r with
          | some l => some ((i, some k') :: l)
          | none => none
        | none => none
      | none => match backB ρ r with
        | some l => some ((i, none) :: l)
        | none => none
    | none => none
/-- the small state s2 is what becomes of the part of s with the numbers L -/
def back (L vs : List Nat) (s s2 : S) : Option S :=
  match renS (backR L vs s.nx) s2.sl with
  | some sl => match backB (backR L vs s.nx) s2.hp with
    | some hp => some ⟨sl, hp ++ (L.map (fun i => (i, none)) ++ s.hp), s.nx + s2.nx, true, s2.n⟩
    | none => none
  | none => none
/-- what a round comes to, its state made small -/
def bodyK (ts vs : List Nat) (e : Ex) (s : S) : Option (Ex × S) :=
  match norm ts s with
  | some (L, s') => bif fixOk L vs then some (e, s') else none
  | none => none

/-- the blocks that an operation may ask for -/
def tchOf (o : Oper) (vs : List V) : List Nat :=
  match o.op with
  | .load _ _ | .store _ _ _ | .convert _ _ _ | .buildSlice _ _ _ => idss vs
  | .call c => match c.callee with
    | .builtin .len => []
    | _ => idss vs
  | _ => []
structure AF where
  ac : AC
  results : List ResultVar
  rty : List (Sh × TypeId)
  n : Nat

structure Env where
  P : Program
  G : List (Nat × Con)
  I : List (Nat × AF)
  C : List (Nat × (List Nat × (S → Option S)))

section
variable {R : Type}
def put (sl : List (Nat × V)) (d : Option Nat) (v : V) : List (Nat × V) :=
  match d with
  | some t => (t, v) :: sl
  | none => sl
def dstOk (n : Nat) (d : Option Nat) : Bool :=
  match d with
  | some t => Nat.blt t n
  | none => true
/-- and, of which nothing is left where the second is true -/
def andT (a b : Bool) : Bool :=
  match b with
  | true => a
  | false => false
def S.apply (s : S) (d : Option Nat) (r : Res) : S := ⟨put s.sl d r.v, r.wr ++ s.hp, s.nx + 1, andT s.ob r.ob, s.n⟩
/-- who is called: a function with a body to walk through -/
def target (o : Oper) (vs : List V) : Option (FuncId × List V) :=
  match o.op, vs with
  | .call ⟨cal, _, _⟩, vs => match cal, vs with
    | .value (.func f), vs => some (f, vs)
    | .value _, .fn f a c :: vs => some (f, a ++ vs ++ c)
    | _, _ => none
  | _, _ => none
def inlOf (E : Env) (o : Oper) (vs : List V) : Option (FuncId × AF × List V) :=
  match target o vs with
  | some (f, as) => match look E.I f with
    | some af => some (f, af, as)
    | none => none
  | none => none
def slots : Nat → List V → List (Nat × V)
  | _, [] => []
  | i, v :: l => (i, v) :: slots (i + 1) l
def refOf (E : Env) (o : Oper) (vs : List V) : Option (List Nat × (S → Option S) × List V) :=
  match target o vs with
  | some (f, as) => match look E.C f with
    | some (ws, F) => some (ws, F, as)
    | none => none
  | none => none
/-- a call by what it does with the blocks that it is handed -/
def callR (ws : List Nat) (F : S → Option S) (as : List V) (s : S) : Option (V × S) :=
  match norm (List.range as.length) { s with sl := slots 0 as } with
  | some (L, s1) => bif varsOk s1 ws then match F s1 with
    | some s2 => match back L ws s s2 with
      | some s' => match look s'.sl 0 with
        | some v => some (v, s')
        | none => none
      | none => none
    | none => none else none
  | none => none
/-- one operation, or a call walked through -/
def exec (E : Env) (inl : AF → List V → S → (V → S → Option R) → Option R) (o : Oper) (s : S) (k : S → Option R) : Option R :=
  bif dstOk s.n o.dst then
    match mapO (evO s.sl) (opnds o) with
    | none => none
    | some vs =>
      match inlOf E o vs with
      | some (_, af, as) => bif s.ob then inl af as s fun v s' => k { s' with sl := put s.sl o.dst v, nx := s'.nx + 1, n := s.n } else none
      | none => match refOf E o vs with
        | some (ws, F, as) => bif s.ob then match callR ws F as s with
          | some (v, s') => k ⟨put s.sl o.dst v, s'.hp, s'.nx + 1, true, s.n⟩
          | none => none else none
        | none => match act E.P E.G o vs (lookH s.hp) s.nx with
          | some r => k (s.apply o.dst r)
          | none => none
  else none
def skipO (o : Oper) (s : S) : S := { s with sl := put s.sl o.dst .void, nx := s.nx + 1 }
def setS (s : S) (t : Nat) (b : Bool) : S := { s with sl := (t, .bool b) :: s.sl }
def runOps (E : Env) (inl : AF → List V → S → (V → S → Option R) → Option R) (all : List Oper) : List Oper → S → (S → Option R) → Option R
  | [], s, k => k s
  | o :: r, s, k => match o.guard with
    | none => exec E inl o s fun s => runOps E inl all r s k
    | some (j, want) => match (nthL all j).bind (·.dst) with
      | none => none
      | some t => match look s.sl t with
        | some (.bool b) => bif b then
            (bif want then exec E inl o (setS s t true) fun s => runOps E inl all r s k else bif dstOk s.n o.dst then runOps E inl all r (skipO o (setS s t true)) k else none)
          else
            (bif want then bif dstOk s.n o.dst then runOps E inl all r (skipO o (setS s t false)) k else none else exec E inl o (setS s t false) fun s => runOps E inl all r s k)
        | some .void => bif dstOk s.n o.dst then runOps E inl all r (skipO o s) k else none
        | _ => none
/-! ### regions that draw their order -/
/-- what an operation came to: where it writes, what it looked at -/
structure It where
  dst : Option Nat
  v : V
  wr : List (Nat × Option Blk)
  rd : List Nat
  tch : List Nat
  deriving Inhabited
def tmpsOf : List Operand → List Nat
  | [] => []
  | .tmp t :: r => t :: tmpsOf r
  | _ :: r => tmpsOf r
def rdsO (all : List Oper) (o : Oper) : List Nat :=
  (match o.guard with
    | some (j, _) => ((nthL all j).bind (·.dst)).toList
    | none => []) ++ tmpsOf (opnds o)
def actD (E : Env) (all : List Oper) (o : Oper) (s : S) (k : S → It → Option R) : Option R :=
  bif dstOk s.n o.dst then
    match mapO (evO s.sl) (opnds o) with
    | none => none
    | some vs => match inlOf E o vs with
      | some _ => none
      | none => match act E.P E.G o vs (lookH s.hp) s.nx with
        | some r => k (s.apply o.dst r) ⟨o.dst, r.v, r.wr, rdsO all o, tchOf o vs⟩
        | none => none
  else none
def skipD (all : List Oper) (o : Oper) (s : S) (k : S → It → Option R) : Option R :=
  bif dstOk s.n o.dst then k (skipO o s) ⟨o.dst, .void, [], rdsO all o, []⟩ else none
def runDr (E : Env) (all : List Oper) : List Oper → S → (S → List It → Option R) → Option R
  | [], s, k => k s []
  | o :: r, s, k => match o.guard with
    | none => actD E all o s fun s it => runDr E all r s fun s l => k s (it :: l)
    | some (j, want) => match (nthL all j).bind (·.dst) with
      | none => none
      | some t => match look s.sl t with
        | some (.bool b) => bif b then
            (bif want then actD E all o (setS s t true) fun s it => runDr E all r s fun s l => k s (it :: l) else skipD all o (setS s t true) fun s it => runDr E all r s fun s l => k s (it :: l))
          else
            (bif want then skipD all o (setS s t false) fun s it => runDr E all r s fun s l => k s (it :: l) else actD E all o (setS s t false) fun s it => runDr E all r s fun s l => k s (it :: l))
        | some .void => skipD all o s fun s it => runDr E all r s fun s l => k s (it :: l)
        | _ => none
def keysW : List (Nat × Option Blk) → List Nat
  | [] => []
  | (i, _) :: r => i :: keysW r
def disj : List Nat → List Nat → Bool
  | [], _ => true
  | x :: l, m => !memN x m && disj l m
where memN (x : Nat) : List Nat → Bool
  | [] => false
  | y :: l => Nat.beq x y || memN x l
/-- neither looks at what the other writes -/
def indep (a b : It) : Bool :=
  disj a.dst.toList b.rd && disj b.dst.toList a.rd && disj a.dst.toList b.dst.toList && disj (keysW a.wr) b.tch && disj (keysW b.wr) a.tch && disj (keysW a.wr) (keysW b.wr)
/-- whom an operation waits for -/
def dirs (o : Oper) : List Nat := (o.after.toList.filter fun e => Region.binds .any e).map (·.on)
def ancs : List Oper → List (List Nat) → List (List Nat)
  | [], acc => acc
  | o :: r, acc => ancs r (acc ++ [dirs o ++ (dirs o).flatMap fun j => (nthL acc j).getD []])
def memNat (x : Nat) : List Nat → Bool
  | [] => false
  | y :: l => Nat.beq x y || memNat x l
def okPair (an : List (List Nat)) (its : List It) (i j : Nat) : Bool :=
  memNat i ((nthL an j).getD []) || (match nthL its i, nthL its j with | some a, some b => indep a b | _, _ => false)
def allLt (n : Nat) (p : Nat → Bool) : Bool :=
  match n with
  | 0 => true
  | n + 1 => p n && allLt n p
def drawOk (all : List Oper) (its : List It) : Bool :=
  Nat.beq its.length all.length && allLt all.length (fun j => allLt j (fun i => okPair (ancs all []) its i j)) &&
  allLt all.length (fun j => match nthL all j with | some o => (dirs o).all (fun i => Nat.blt i j) | none => false)
def runTr (k : Ex → S → Option R) : Tr → Option R
  | .leaf e s => k e s
  | .br b x y => bif b then runTr k x else runTr k y
/-- up to n rounds -/
def loopN (body : (Ex → S → Option R) → S → Option R) (k : Ex → S → Option R) : Nat → S → Option R
  | 0, _ => none
  | n + 1, s => body (fun e s' => match e with | .normal => loopN body k n s' | e => k e s') s
def aev (E : Env) (inl : AF → List V → S → (V → S → Option R) → Option R) : AC → (Ex → S → Option R) → S → Option R
  | .skip, k, s => k .normal s
  | .region _ ops false, k, s => runOps E inl ops ops s fun s => bif s.ob then k .normal { s with ob := true } else none
  | .region _ ops true, k, s => runDr E ops ops s fun s its => bif s.ob && drawOk ops its then k .normal { s with ob := true } else none
  | .seq a b, k, s => aev E inl a (fun e s => match e with | .normal => aev E inl b k s | e => k e s) s
  | .cond c x y, k, s => match c with
    | .tmp t => match look s.sl t with
      | some (.bool b) => bif b then aev E inl x k (setS s t true) else aev E inl y k (setS s t false)
      | _ => none
    | .const (.bool b) => bif b then aev E inl x k s else aev E inl y k s
    | _ => none
  | .block id c, k, s => aev E inl c (fun e s => match e with | .exit i => bif Nat.beq i id then k .normal s else k (.exit i) s | e => k e s) s
  | .loop _ ts vs g, k, s => match norm ts s with
    | some (L, s1) => bif varsOk s1 vs then match g s1 with
      | some t => runTr (fun e s2 => match back L vs s s2 with | some s' => k e s' | none => none) t
      | none => none else none
    | none => none
  | .unr n c, k, s => loopN (aev E inl c) k n s
  | .exit id, k, s => k (.exit id) s
  | .ret, k, s => k .ret s
  | .bad _, _, _ => none
def resV (P : Program) (s : S) : List ResultVar → Option (List V)
  | [] => some []
  | .tmp t :: r => match look s.sl t with
    | some v => match resV P s r with
      | some l => some (v :: l)
      | none => none
    | none => none
  | .cell t ty :: r => match look s.sl t with
    | some (.ref id p _ sh) => match lookH s.hp id with
      | some b => match getP (contV b) p with
        | some v => match resV P s r with
          | some l => bif ldOk P ty sh then some (v :: l) else none
          | none => none
        | none => none
      | none => none
    | _ => none
def tupV : List V → V
  | [v] => v
  | l => .tup l
def inlN (E : Env) : Nat → AF → List V → S → (V → S → Option R) → Option R
  | 0, _, _, _, _ => none
  | d + 1, af, vs, s, k => bif Nat.ble vs.length af.n then aev E (inlN E d) af.ac (fun e s' => match e with
    | .normal | .ret => match resV E.P s' af.results with
      | some l => k (tupV l) s'
      | none => none
    | _ => none) { s with sl := slots 0 vs, n := af.n } else none
/-- a function from values to values -/
def callV (E : Env) (af : AF) (vs : List V) : Option V :=
  bif Nat.ble vs.length af.n then aev E (inlN E 6) af.ac (fun e s => match e with
    | .normal | .ret => match resV E.P s af.results with
      | some l => (packs (lookH s.hp) af.rty l).map tupV
      | none => none
    | _ => none) ⟨slots 0 vs, [], 0, true, af.n⟩ else none
end
def afOf (P : Program) (f : Func) (l : List An) : AF :=
  ⟨match f.body with | some c => (annot c l).1 | none => .bad .skip, f.results.toList, (mapO (fun t => (shOf P depth t).map fun s => (s, match P.underlying t with | some (.slice e) => e | _ => 0)) f.resultTypes.toList).getD [], f.ntmps⟩
end Go.Am
