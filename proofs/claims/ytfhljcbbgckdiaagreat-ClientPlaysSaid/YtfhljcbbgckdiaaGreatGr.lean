/- Part Gr of the proof: laws used by the law of this claim. -/
import Derived.Lib.AppendZeros
import Derived.Test.YtfhljcbbgckdiaaGreatProg
import Derived.Test.YtfhljcbbgckdiaaGreatGf
import Derived.Test.YtfhljcbbgckdiaaGreatGp
import Derived.Test.YtfhljcbbgckdiaaGreatGd
import Derived.Test.YtfhljcbbgckdiaaGreatGk
import Derived.Test.YtfhljcbbgckdiaaGreatGl
import Derived.Test.YtfhljcbbgckdiaaGreatGe
set_option linter.all false
namespace Go.Am
open Go Go.RowKit Go.Bas
section
variable {ι : Nat → Option Cn} {O : Nat → Prop} {w0 : Zone} {w w' : World} {hp : Nat → Option Blk} {P : Program}
mutual
theorem intsG {ι' : Nat → Option Cn} {X Y : Nat → Prop} : ∀ (v : V) {cs : List Value}, isI v = true → CRep ι X w v cs → CRep ι' Y w v cs ∧ True
 | .int k n, cs, _, h => by cases h with | int h => exact ⟨.int h, trivial⟩
 | .bool b, cs, _, h => by cases h; exact ⟨.bool, trivial⟩
 | .barr n l, cs, _, h => by cases h with | barr h => exact ⟨.barr h, trivial⟩
 | .agg l, cs, hi, h => by cases h with | agg h => exact ⟨.agg (intsGs l hi h).1, trivial⟩
theorem intsGs {ι' : Nat → Option Cn} {X Y : Nat → Prop} : ∀ (v : List V) {cs : List Value}, isIs v = true → CReps ι X w v cs → CReps ι' Y w v cs ∧ True
 | [], cs, _, h => by cases h; exact ⟨.nil, trivial⟩
 | v :: l, cs, hi, h => by
  have hi := (Bool.and_eq_true _ _).mp hi
  cases h with | cons p q => exact ⟨.cons (intsG v hi.1 p).1 (intsGs l hi.2 q).1, trivial⟩
end
theorem intsG_rep {ι' : Nat → Option Cn} {X Y : Nat → Prop} : ∀ {xs : List V} {ds : List Value}, isIs xs = true → VReps ι X w xs ds → VReps ι' Y w xs ds
 | [], _, _, h => by cases h; exact .nil
 | v :: xs, _, ha, h => by
  have ha := (Bool.and_eq_true _ _).mp ha
  cases h with
  | cons p q =>
   refine .cons ?_ (intsG_rep ha.2 q)
   cases p with
   | one a b => exact .one (intsG v ha.1 a).1 b
   | agg a b => exact .agg (intsG v ha.1 a).1 b
   | tup _ => cases ha.1
   | void => cases ha.1
   | undef => cases ha.1
def callA (E : Env) (af : AF) (T : TypeId) (l : List UInt8) (xs : List V) : Option (List UInt8) :=
 bif Nat.ble (xs.length + 1) af.n && isIs xs then aev E (inlN E 6) af.ac (fun e s => match e with
  | .normal | .ret => match resV E.P s af.results with
   | some [.own id _ (.int .u8)] => match lookH s.hp id with
    | some (.row T' (.int .u8) (.bytes z)) => bif Nat.beq T T' then some z else none
    | _ => none
   | _ => none
  | _ => none) ⟨slots 0 (.own 0 l.length (.int .u8) :: xs), [(0, some (.row T (.int .u8) (.bytes l)))], 1, true, af.n⟩ else none
theorem callA_ok {E : Env} (hE : EnvOk E) {f : FuncId} {af : AF} (haf : AfOk E.P f af) {T : TypeId} {xs : List V} {y : List UInt8} {w : World} {A : Option Addr} {n k : Nat} {l : List UInt8} {ds : List Value}
  (h : callA E af T l xs = some (l ++ y)) (ho : w.ownsRow 0 T 1 (.slice A n k) n (l.map bv)) (hn : n = l.length) (hv : VReps no (fun _ => False) w xs ds) (hgd : LaidW w ∧ ∀ p ∈ goods, some p.1 ≠ (Value.slice A n k).ownBlock) :
  Calls E.P f (Value.slice A n k :: ds).toArray w fun e w' => ∃ A' k', e = .returned (.slice A' (n + y.length) k') ∧ w'.ownsRow 0 T 1 (.slice A' (n + y.length) k') (n + y.length) ((l ++ y).map bv) ∧
   w.grownBy w' (Value.slice A n k).ownBlock ∧ ∀ a, A' = some a → A.map (·.block) = some a.block ∨ w.heap.size ≤ a.block := by
 subst hn
 obtain ⟨hb, hx⟩ := ofBif h
 simp only [Bool.and_eq_true] at hb
 obtain ⟨hle, hi⟩ := hb
 have hle : (V.own 0 l.length (.int .u8) :: xs).length ≤ af.n := Nat.le_of_ble_eq_true hle
 obtain ⟨fn, h1, h2, h3, h4⟩ := haf.code
 let ι : Nat → Option Cn := fun i => if i = 0 then some (.row A l.length k T (.int .u8)) else none
 let w0 : Zone := ⟨w, fun b => b < w.heap.size ∧ some b ≠ (Value.slice A l.length k).ownBlock, hgd.1, fun p hp => ⟨hgd.1.lt hp, hgd.2 p hp⟩⟩
 let hp : List (Nat × Option Blk) := [(0, some (.row T (.int .u8) (.bytes l)))]
 have hl : ∀ id b, lookH hp id = some b → id = 0 ∧ b = .row T (.int .u8) (.bytes l) := by
  intro id b hq
  simp only [hp, lookH] at hq
  cases h0 : Nat.beq 0 id with
  | true => rw [h0] at hq; injection hq with hq; exact ⟨(Nat.eq_of_beq_eq_true h0).symm, hq.symm⟩
  | false => rw [h0] at hq; cases hq
 have mine : ∀ id b, Mine ι (lookH hp) id b → id = 0 ∧ ∃ a, A = some a ∧ a.block = b := by
  rintro id b ⟨kk, c, e1, e2, e3, e4⟩
  obtain ⟨rfl, rfl⟩ := hl id kk e1
  have : c = .row A l.length k T (.int .u8) := by simp only [ι, if_pos] at e3; exact (Option.some.inj e3).symm
  subst this
  cases A with
  | none => cases e4
  | some a => injection e4 with e4; exact ⟨rfl, a, rfl, e4⟩
 have hm : MSim ι (fun _ => False) w0 ⟨[], hp, 1, true, 0⟩ w := by
  refine ⟨⟨Keeps.refl _ _, fun b hb => hb.1, fun _ h => h.elim, fun id kk hk => ?_, fun id id' b h h' => (mine id b h).1.trans (mine id' b h').1.symm, fun id b h => ?_⟩, fun id hid => if_neg (by intro e; subst e; exact absurd hid (by simp))⟩
  ·obtain ⟨rfl, rfl⟩ := hl id kk hk
   exact .row (if_pos rfl) .bytes ho
  ·obtain ⟨_, a, rfl, rfl⟩ := mine id b h
   exact ⟨fun hq => hq.2 rfl, (ownsRow_lt ho).2⟩
 have h0 : VRep ι (XS ι (fun _ => False) ⟨[], hp, 1, true, 0⟩) w (.own 0 l.length (.int .u8)) (.slice A l.length k) :=
  .one (.own (if_pos rfl) (fun h0 => (own_form ho).elim id fun e => absurd e.2.1 (by omega)) (own_caps ho)) rfl
 have hs := Sim.start (n := af.n) hm (VReps.cons h0 (intsG_rep hi hv)) hle
 refine calls_of_wp h1 h2 ?_
 rw [h4]
 refine Code.wp_mono ?_ (aev_ok hE (inlN_ok hE 6) af.ac _ _ _ haf.loops hx ι _ w0 _ w hs rfl)
 rintro e a' w' ⟨e', s', rfl, hk, hob', ι', q1, q2⟩
 have fin : (match resV E.P s' af.results with | some [.own id _ (.int .u8)] => (match lookH s'.hp id with | some (.row T' (.int .u8) (.bytes z)) => bif Nat.beq T T' then some z else none | _ => none) | _ => none) = some (l ++ y) →
   bodyPost E.P fn (fun e w' => ∃ A' k', e = .returned (.slice A' (l.length + y.length) k') ∧ w'.ownsRow 0 T 1 (.slice A' (l.length + y.length) k') (l.length + y.length) ((l ++ y).map bv) ∧
   w.grownBy w' (Value.slice A l.length k).ownBlock ∧ ∀ a, A' = some a → A.map (·.block) = some a.block ∨ w.heap.size ≤ a.block) .ret a' w' := by
  intro hk
  split at hk
  ·rename_i id m hres
   split at hk
   ·rename_i T' z hz
    obtain ⟨hT, hk⟩ := ofBif hk
    injection hk with hk; subst hk
    obtain rfl := Nat.eq_of_beq_eq_true hT
    rw [← h3] at hres
    obtain ⟨cs', r1, r2⟩ := results_ok hres q1
    obtain ⟨c, rfl, r3⟩ := r1.one_inv
    obtain ⟨A', k', T0, rfl, hi', hA'⟩ := r3.own_inv
    cases q1.mem.blk id _ hz with
    | row b1 b2 b3 =>
     rw [hi'] at b1; injection b1 with b1; injection b1 with e1 e2 e3 e4 e5
     subst e1; subst e2; subst e3; subst e4
     cases b2 with
     | bytes =>
      have hm' : ∀ a, A' = some a → Mine ι' (lookH s'.hp) id a.block := by
       rintro a rfl
       exact ⟨_, _, hz, rfl, hi', rfl⟩
      refine ⟨q1.defers, _, r2, A', k', ?_, ?_, ?_, fun a ha => ?_⟩
      ·rw [← List.length_append]; rfl
      ·rw [← List.length_append]; exact b3
      ·exact ⟨q1.mem.below.os, q1.mem.below.tape, q1.mem.below.output, q1.mem.below.size, fun kk hlt hne => q1.mem.below.block kk ⟨hlt, hne⟩⟩
      ·have hf := (q1.mem.fresh id _ (hm' a ha)).1
       rcases Nat.lt_or_ge a.block w.heap.size with hlt | hge
       ·left
        have : ¬ some a.block ≠ (Value.slice A l.length k).ownBlock := fun hne => hf ⟨hlt, hne⟩
        have : some a.block = (Value.slice A l.length k).ownBlock := Classical.not_not.1 this
        rw [this]
        cases A <;> rfl
       ·exact .inr hge
   ·cases hk
  ·cases hk
 cases e' with
 | normal => exact fin hk
 | ret => exact fin hk
 | exit id => cases hk
 | goto l => cases hk
 | pan ch => cases hk
theorem callA_app {E : Env} (hE : EnvOk E) {f : FuncId} {af : AF} (haf : AfOk E.P f af) {T : TypeId} {F : List V → Option (List UInt8 × Bool)}
  (h : ∀ xs y, F xs = some (y, true) → ∀ l : List UInt8, l.length + y.length ≤ 140737488355328 → callA E af T l xs = some (l ++ y)) : AppS E.P f T F := by
 intro xs y hF w A n k l ds ho hn hsz hv hgd
 subst hn
 exact callA_ok hE haf (h xs y hF l hsz) ho rfl hv hgd
end
end Go.Am
namespace Go.Proofs.YtfhljcbbgckdiaaGreat
open Go Go.RowKit Go.Mix Go.Bas
set_option maxRecDepth 100000
end Go.Proofs.YtfhljcbbgckdiaaGreat
namespace Go.Proofs.YtfhljcbbgckdiaaGreat
open Go Go.Am Go.RowKit Go.Mix Go.Bas
set_option maxRecDepth 100000
def shP : Sh := .agg [.int .i64, .int .i64, .int .i64]
def pt (k a n : Int) : V := .agg [.int .i64 k, .int .i64 a, .int .i64 n]
def wkX (nx : Int) : Bool := nx == 0 || (nx == 43 || nx == 60)
def wkM (nx j : Int) : Int := if nx = 44 then 7 else if nx = 0 ∧ 0 < j then 5 else if wkX nx = true ∧ 8 ≤ j then 8 else 0
def wkN (b : List UInt8) (at_ : Int) : Int := 8 * (gt b (at_ + 1).toNat + 1)
def wkS (b : List UInt8) (at_ : Int) : Bool := decide ((b.length : Int) - at_ < 2 ∨ (b.length : Int) - at_ < wkN b at_)
def wkL : Nat → List UInt8 → Int → Int → List V → Int × Int × Int × List V
 | 0, _, nx, a, acc => (8, nx, a, acc)
 | k + 1, b, nx, a, acc =>
  if wkM nx (acc.length : Int) = 0 then (if wkX nx then (if wkS b a then (3, nx, a, acc) else wkL k b (gt b a.toNat) (a + wkN b a) (acc ++ [pt nx a (wkN b a)])) else (0, nx, a, acc))
  else (wkM nx (acc.length : Int), nx, a, acc)
def wkR : Nat → List UInt8 → Int → Int → Int → Int × List V
 | 0, _, _, _, _ => (8, [])
 | k + 1, b, nx, a, j =>
  if wkM nx j = 0 then (if wkX nx then (if wkS b a then (3, []) else
   (if (wkR k b (gt b a.toNat) (a + wkN b a) (j + 1)).1 = 0 then (0, pt nx a (wkN b a) :: (wkR k b (gt b a.toNat) (a + wkN b a) (j + 1)).2) else ((wkR k b (gt b a.toNat) (a + wkN b a) (j + 1)).1, []))) else (0, [pt nx a (b.length - a)]))
  else (wkM nx j, [])
theorem wkL_R : ∀ (k : Nat) (b : List UInt8) (nx a : Int) (acc : List V), (wkL k b nx a acc).1 = (wkR k b nx a (acc.length : Int)).1 ∧
  ((wkL k b nx a acc).1 = 0 → (wkL k b nx a acc).2.2.2 ++ [pt (wkL k b nx a acc).2.1 (wkL k b nx a acc).2.2.1 (b.length - (wkL k b nx a acc).2.2.1)] = acc ++ (wkR k b nx a (acc.length : Int)).2)
 | 0, b, nx, a, acc => ⟨rfl, fun h => by cases h⟩
 | k + 1, b, nx, a, acc => by
  have ih := wkL_R k b (gt b a.toNat) (a + wkN b a) (acc ++ [pt nx a (wkN b a)])
  rw [List.length_append, List.length_singleton, show ((acc.length + 1 : Nat) : Int) = (acc.length : Int) + 1 from rfl] at ih
  unfold wkL wkR
  by_cases h1 : wkM nx (acc.length : Int) = 0
  ·rw [if_pos h1, if_pos h1]
   by_cases h2 : wkX nx = true
   ·rw [if_pos h2, if_pos h2]
    by_cases h3 : wkS b a = true
    ·rw [if_pos h3, if_pos h3]
     exact ⟨rfl, fun h => by cases h⟩
    ·rw [if_neg h3, if_neg h3]
     refine ⟨?_, fun h => ?_⟩
     ·rw [ih.1]
      split
      ·assumption
      ·rfl
     ·rw [ih.2 h]
      rw [ih.1] at h
      rw [if_pos h, List.append_assoc]
      rfl
   ·rw [if_neg h2, if_neg h2]
    exact ⟨rfl, fun _ => rfl⟩
  ·rw [if_neg h1, if_neg h1]
   exact ⟨rfl, fun h => absurd h h1⟩
noncomputable def af_wkExt : AF := afOf Tryz.prog Tryz.f133 []
theorem af_wkExt_ok : AllOk Tryz.prog 133 af_wkExt := .flat Tryz.func133 (by kernel_rfl) (by kernel_rfl) (by kernel_rfl) (by kernel_rfl) (by kernel_rfl)
noncomputable def af_wkMay : AF := afOf Tryz.prog Tryz.f132 []
theorem af_wkMay_ok : AllOk Tryz.prog 132 af_wkMay := .flat Tryz.func132 (by kernel_rfl) (by kernel_rfl) (by kernel_rfl) (by kernel_rfl) (by kernel_rfl)
noncomputable def af_wkMea : AF := afOf Tryz.prog Tryz.f134 []
theorem af_wkMea_ok : AllOk Tryz.prog 134 af_wkMea := .flat Tryz.func134 (by kernel_rfl) (by kernel_rfl) (by kernel_rfl) (by kernel_rfl) (by kernel_rfl)
noncomputable def GEwk0 : List (Nat × Con) := []
theorem GEwk0_ok : GOk Tryz.prog GEwk0 := .nil
noncomputable def IEwk0 : List (Nat × AF) := [(133, af_wkExt)]
theorem IEwk0_ok : IOk Tryz.prog IEwk0 := .cons af_wkExt_ok <| .nil
noncomputable def CEwk0 : List (Nat × (List Nat × (S → Option (Bool × Tr)))) := []
theorem CEwk0_ok : COk Tryz.prog CEwk0 := .nil
noncomputable def XEwk0 : List (Nat × (List Sh × (List V → PT))) := []
theorem XEwk0_ok : XOk Tryz.prog XEwk0 := .nil
noncomputable def Ewk0 : Env := ⟨Tryz.prog, GEwk0, IEwk0, CEwk0, XEwk0, false⟩
theorem Ewk0_ok : EnvOk Ewk0 := ⟨by kernel_rfl, GEwk0_ok, IEwk0_ok, CEwk0_ok, XEwk0_ok⟩
theorem wkMay_t (nx j : Int) : callV Ewk0 af_wkMay [.int .i64 nx, .int .i64 j] =
 bif nx == (44 : Int) then some (V.int IntKind.i64 7)
 else
 bif nx == (0 : Int) then
 bif decide (j > (0 : Int)) then some (V.int IntKind.i64 5)
 else
 bif nx == (0 : Int) then
 bif decide (j ≥ (8 : Int)) then some (V.int IntKind.i64 8) else some (V.int IntKind.i64 0)
 else
 bif nx == (43 : Int) then
 bif decide (j ≥ (8 : Int)) then some (V.int IntKind.i64 8) else some (V.int IntKind.i64 0)
 else
 bif nx == (60 : Int) then
 bif decide (j ≥ (8 : Int)) then some (V.int IntKind.i64 8) else some (V.int IntKind.i64 0)
 else some (V.int IntKind.i64 0)
 else
 bif nx == (0 : Int) then
 bif decide (j ≥ (8 : Int)) then some (V.int IntKind.i64 8) else some (V.int IntKind.i64 0)
 else
 bif nx == (43 : Int) then
 bif decide (j ≥ (8 : Int)) then some (V.int IntKind.i64 8) else some (V.int IntKind.i64 0)
 else
 bif nx == (60 : Int) then
 bif decide (j ≥ (8 : Int)) then some (V.int IntKind.i64 8) else some (V.int IntKind.i64 0)
 else some (V.int IntKind.i64 0) := by kernel_rfl
theorem wkExt_t (nx : Int) : callV Ewk0 af_wkExt [.int .i64 nx] =
 bif nx == (0 : Int) then some (V.bool true)
 else
 bif nx == (43 : Int) then some (V.bool true)
 else bif nx == (60 : Int) then some (V.bool true) else some (V.bool false) := by kernel_rfl
theorem wkMea_t (b : List UInt8) (i : Int) : callV Ewk0 af_wkMea [.bytes b, .int .i64 i] =
 bif decide (IntKind.i64.wrap ((↑b.length : Int) - i) < (2 : Int)) then
 some (V.tup [V.int IntKind.i64 0, V.int IntKind.i64 0, V.int IntKind.i64 3])
 else
 bif andT true (inB (IntKind.i64.wrap (i + (1 : Int))) b.length) then
 bif
 decide
 (IntKind.i64.wrap
 ((8 : Int) *
 IntKind.i64.wrap (IntKind.i64.wrap (gt b (IntKind.i64.wrap (i + (1 : Int))).toNat) + (1 : Int))) >
 IntKind.i64.wrap ((↑b.length : Int) - i)) then
 some (V.tup [V.int IntKind.i64 0, V.int IntKind.i64 0, V.int IntKind.i64 3])
 else
 bif andT true (inB i b.length) && true then
 some
 (V.tup
 [V.int IntKind.i64
 (IntKind.i64.wrap
 ((8 : Int) *
 IntKind.i64.wrap (IntKind.i64.wrap (gt b (IntKind.i64.wrap (i + (1 : Int))).toNat) + (1 : Int)))),
 V.int IntKind.i64 (IntKind.i64.wrap (gt b i.toNat)), V.int IntKind.i64 0])
 else none
 else none := by kernel_rfl
theorem wkMay_v (nx j : Int) : callV Ewk0 af_wkMay [.int .i64 nx, .int .i64 j] = some (.int .i64 (wkM nx j)) := by
 rw [wkMay_t]
 unfold wkM wkX
 by_cases h1 : nx = 44
 ·simp (disch := omega) only [tre]
  simp [h1]
 by_cases h2 : nx = 0
 ·by_cases h3 : 0 < j
  ·simp (disch := omega) only [tre]
   simp [h1, h2, h3]
  ·have h4 : ¬ j ≥ 8 := by omega
   simp (disch := omega) only [tre]
   simp [h2, h3, h4]
 ·by_cases h4 : j ≥ 8
  ·by_cases h5 : nx = 43
   ·simp (disch := omega) only [tre]
    simp [h5, h4]
   ·by_cases h6 : nx = 60
    ·simp (disch := omega) only [tre]
     simp [h6, h4]
    ·simp (disch := omega) only [tre]
     simp [h1, h2, h5, h6]
  ·by_cases h5 : nx = 43
   ·simp (disch := omega) only [tre]
    simp [h5, h4]
   ·by_cases h6 : nx = 60
    ·simp (disch := omega) only [tre]
     simp [h6, h4]
    ·simp (disch := omega) only [tre]
     simp [h1, h2, h5, h6]
theorem wkExt_v (nx : Int) : callV Ewk0 af_wkExt [.int .i64 nx] = some (.bool (wkX nx)) := by
 rw [wkExt_t]
 unfold wkX
 cases nx == 0 <;> cases nx == 43 <;> cases nx == 60 <;> rfl
def wkMN (b : List UInt8) (i : Int) : Int := if wkS b i then 0 else wkN b i
def wkMB (b : List UInt8) (i : Int) : Int := if wkS b i then 0 else gt b i.toNat
def wkME (b : List UInt8) (i : Int) : Int := if wkS b i then 3 else 0
theorem wkMea_v (b : List UInt8) (i : Int) (h0 : 0 ≤ i) (h1 : i ≤ b.length) (h2 : b.length ≤ 140737488355328) : callV Ewk0 af_wkMea [.bytes b, .int .i64 i] = some (.tup [.int .i64 (wkMN b i), .int .i64 (wkMB b i), .int .i64 (wkME b i)]) := by
 rw [wkMea_t]
 unfold wkMN wkMB wkME
 have g1 := gt_lo b (i + 1).toNat
 have g2 := gt_hi b (i + 1).toNat
 have g3 := gt_lo b i.toNat
 have g4 := gt_hi b i.toNat
 rw [w64 (x := (b.length : Int) - i) (by omega) (by omega), w64 (x := i + 1) (by omega) (by omega), w64 (x := gt b (i + 1).toNat) (by omega) (by omega), w64 (x := gt b (i + 1).toNat + 1) (by omega) (by omega), w64 (x := 8 * (gt b (i + 1).toNat + 1)) (by omega) (by omega), w64 (x := gt b i.toNat) (by omega) (by omega)]
 by_cases hs : wkS b i = true
 ·rw [if_pos hs, if_pos hs, if_pos hs]
  have hs := of_decide_eq_true hs
  unfold wkN at hs
  by_cases h3 : (b.length : Int) - i < 2
  ·simp (disch := omega) only [tre]
  ·simp (disch := omega) only [tre]
 ·rw [if_neg hs, if_neg hs, if_neg hs]
  have hs : ¬ ((b.length : Int) - i < 2 ∨ (b.length : Int) - i < wkN b i) := fun h => hs (decide_eq_true h)
  unfold wkN at hs ⊢
  simp (disch := omega) only [tre]
def cWkMay : List V → Option (V × Bool)
 | [.int .i64 nx, .int .i64 j] => some (.int .i64 (wkM nx j), true)
 | _ => none
def cWkExt : List V → Option (V × Bool)
 | [.int .i64 nx] => some (.bool (wkX nx), true)
 | _ => none
def cWkMea : List V → Option (V × Bool)
 | [.bytes b, .int .i64 i] => some (.tup [.int .i64 (wkMN b i), .int .i64 (wkMB b i), .int .i64 (wkME b i)], decide (0 ≤ i ∧ i ≤ b.length ∧ b.length ≤ 140737488355328))
 | _ => none
theorem wkMay_con : ∀ vs v, cWkMay vs = some (v, true) → SpecV Tryz.prog 132 vs v := by
 intro vs v h; unfold cWkMay at h; split at h
 ·rename_i nx j
  injection h with h; injection h with h hb; subst h
  exact callV_ok Ewk0_ok af_wkMay_ok (wkMay_v nx j)
 ·cases h
theorem wkExt_con : ∀ vs v, cWkExt vs = some (v, true) → SpecV Tryz.prog 133 vs v := by
 intro vs v h; unfold cWkExt at h; split at h
 ·rename_i nx
  injection h with h; injection h with h hb; subst h
  exact callV_ok Ewk0_ok af_wkExt_ok (wkExt_v nx)
 ·cases h
theorem wkMea_con : ∀ vs v, cWkMea vs = some (v, true) → SpecV Tryz.prog 134 vs v := by
 intro vs v h; unfold cWkMea at h; split at h
 ·rename_i b i
  injection h with h; injection h with h hb; subst h
  exact callV_ok Ewk0_ok af_wkMea_ok ((of_decide_eq_true hb).elim fun x y => wkMea_v b i x y.1 y.2)
 ·cases h
def wkSl (b : List UInt8) (nx a : Int) (v : V) : List (Nat × V) := [(0, .bytes b), (1, .int .i64 nx), (2, .int .i64 a), (8, v)]
def wkS0 (b : List UInt8) (nx a : Int) : S := ⟨wkSl b nx a .nils, [], 0, true, 62⟩
def wkS1 (b : List UInt8) (nx a : Int) (l : List V) : S := ⟨wkSl b nx a (.own 0 l.length shP), [(0, some (.row 170 shP (.rows shP l)))], 1, true, 62⟩
def wkRt (e : Int) : S := ⟨[(6, .nils), (7, .int .i64 e)], [], 0, true, 62⟩
def wkO (b : List UInt8) (r : Int × Int × Int × List V) : Tr := .br (r.1 == 0) (.br r.2.2.2.isEmpty (.leaf (.exit 0) (wkS0 b r.2.1 r.2.2.1)) (.leaf (.exit 0) (wkS1 b r.2.1 r.2.2.1 r.2.2.2))) (.leaf .ret (wkRt r.1))
abbrev wkI (b : List UInt8) (a : Int) : Prop := 0 ≤ a ∧ a ≤ b.length ∧ b.length ≤ 140737488355328
def wkG0 : S → Option (Bool × Tr) := gOf 62 0 fun sl _ => match sl 0, sl 1, sl 2, sl 8 with
 | some (.bytes b), some (.int .i64 nx), some (.int .i64 a), some .nils => some (decide (wkI b a), wkO b (wkL 10 b nx a []))
 | _, _, _, _ => none
def wkG1 : S → Option (Bool × Tr) := gOf 62 1 fun sl hp => match sl 0, sl 1, sl 2, sl 8, hp 0 with
 | some (.bytes b), some (.int .i64 nx), some (.int .i64 a), some (.own 0 n (.agg [.int .i64, .int .i64, .int .i64])), some (.row T (.agg [.int .i64, .int .i64, .int .i64]) (.rows (.agg [.int .i64, .int .i64, .int .i64]) l)) => some (decide (n = l.length ∧ T = 170 ∧ wkI b a ∧ 0 < l.length ∧ l.length ≤ 8), wkO b (wkL (10 - l.length) b nx a l))
 | _, _, _, _, _ => none
def wkG (s : S) : Option (Bool × Tr) := match wkG0 s with
 | some r => some r
 | none => wkG1 s
noncomputable def af_wkWalk : AF := afOf Tryz.prog Tryz.f115 [.sum [0, 1, 2, 8] [] wkG, .jmp 0 [] [] fun _ => none]
noncomputable def wkC : AC := (af_wkWalk.ac.sums.headD (.skip, [], [], fun _ => none)).1
noncomputable def GEwka : List (Nat × Con) := [(132, .val [.int .i64, .int .i64] cWkMay), (133, .val [.int .i64] cWkExt), (134, .val [.bytes, .int .i64] cWkMea)]
theorem GEwka_ok : GOk Tryz.prog GEwka := .cons (enters_of Tryz.func132 (by kernel_rfl) rfl) wkMay_con <| .cons (enters_of Tryz.func133 (by kernel_rfl) rfl) wkExt_con <| .cons (enters_of Tryz.func134 (by kernel_rfl) rfl) wkMea_con <| .nil
noncomputable def IEwka : List (Nat × AF) := []
theorem IEwka_ok : IOk Tryz.prog IEwka := .nil
noncomputable def CEwka : List (Nat × (List Nat × (S → Option (Bool × Tr)))) := []
theorem CEwka_ok : COk Tryz.prog CEwka := .nil
noncomputable def XEwka : List (Nat × (List Sh × (List V → PT))) := []
theorem XEwka_ok : XOk Tryz.prog XEwka := .nil
noncomputable def Ewka : Env := ⟨Tryz.prog, GEwka, IEwka, CEwka, XEwka, false⟩
theorem Ewka_ok : EnvOk Ewka := ⟨by kernel_rfl, GEwka_ok, IEwka_ok, CEwka_ok, XEwka_ok⟩
theorem wk_b0 (b : List UInt8) (nx a : Int) : aev Ewka (inlN Ewka 6) wkC (bodyF (Am.ways [0, 1, 2, 8] [0, 1, 2, 8] [6, 7]) []) (wkS0 b nx a) =
 bif wkM nx (0 : Int) != (0 : Int) then
 some
 (Ex.ret,
 { sl := [(6, V.nils), (7, V.int IntKind.i64 (wkM nx (0 : Int)))], hp := [], nx := 0, ob := true, n := 62 })
 else
 bif !wkX nx then
 some
 (Ex.exit (0 : Nat),
 { sl := [(0, V.bytes b), (1, V.int IntKind.i64 nx), (2, V.int IntKind.i64 a), (8, V.nils)], hp := [], nx := 0, ob := true, n := 62 })
 else
 bif andT true (decide ((0 : Int) ≤ a ∧ a ≤ (↑b.length : Int) ∧ b.length ≤ (140737488355328 : Nat))) then
 bif wkME b a != (0 : Int) then
 some
 (Ex.ret,
 { sl := [(6, V.nils), (7, V.int IntKind.i64 (wkME b a))], hp := [], nx := 0, ob := true, n := 62 })
 else
 some
 (Ex.normal,
 { sl := [(0, V.bytes b), (1, V.int IntKind.i64 (wkMB b a)), (2, V.int IntKind.i64 (IntKind.i64.wrap (a + wkMN b a))), (8, V.own (0 : Nat) (V.agg [V.int IntKind.i64 nx, V.int IntKind.i64 a, V.int IntKind.i64 (wkMN b a)] :: List.replicate (nat_lit 0) (V.agg [V.int IntKind.i64 0, V.int IntKind.i64 0, V.int IntKind.i64 0])).length (Sh.agg [Sh.int IntKind.i64, Sh.int IntKind.i64, Sh.int IntKind.i64]))], hp := [(0, some (Blk.row (170 : Nat) (Sh.agg [Sh.int IntKind.i64, Sh.int IntKind.i64, Sh.int IntKind.i64]) (V.rows (Sh.agg [Sh.int IntKind.i64, Sh.int IntKind.i64, Sh.int IntKind.i64]) (V.agg [V.int IntKind.i64 nx, V.int IntKind.i64 a, V.int IntKind.i64 (wkMN b a)] :: List.replicate (nat_lit 0) (V.agg [V.int IntKind.i64 0, V.int IntKind.i64 0, V.int IntKind.i64 0])))))], nx := 1, ob := true, n := 62 })
 else none := by kernel_rfl
theorem wk_b1 (b : List UInt8) (nx a : Int) (l : List V) : aev Ewka (inlN Ewka 6) wkC (bodyF (Am.ways [0, 1, 2, 8] [0, 1, 2, 8] [6, 7]) []) (wkS1 b nx a l) =
 bif wkM nx (↑l.length : Int) != (0 : Int) then
 some
 (Ex.ret,
 { sl := [(6, V.nils), (7, V.int IntKind.i64 (wkM nx (↑l.length : Int)))], hp := [], nx := 0, ob := true, n := 62 })
 else
 bif !wkX nx then
 some
 (Ex.exit (0 : Nat),
 { sl := [(0, V.bytes b), (1, V.int IntKind.i64 nx), (2, V.int IntKind.i64 a), (8, V.own (0 : Nat) l.length (Sh.agg [Sh.int IntKind.i64, Sh.int IntKind.i64, Sh.int IntKind.i64]))], hp := [(0, some (Blk.row (170 : Nat) (Sh.agg [Sh.int IntKind.i64, Sh.int IntKind.i64, Sh.int IntKind.i64]) (V.rows (Sh.agg [Sh.int IntKind.i64, Sh.int IntKind.i64, Sh.int IntKind.i64]) l)))], nx := 1, ob := true, n := 62 })
 else
 bif andT true (decide ((0 : Int) ≤ a ∧ a ≤ (↑b.length : Int) ∧ b.length ≤ (140737488355328 : Nat))) then
 bif wkME b a != (0 : Int) then
 some
 (Ex.ret,
 { sl := [(6, V.nils), (7, V.int IntKind.i64 (wkME b a))], hp := [], nx := 0, ob := true, n := 62 })
 else
 bif
 andT true
 (((l ++
 V.agg [V.int IntKind.i64 nx, V.int IntKind.i64 a, V.int IntKind.i64 (wkMN b a)] ::
 List.replicate (nat_lit 0)
 (V.agg
 [V.int IntKind.i64 0, V.int IntKind.i64 0,
 V.int IntKind.i64 0])).length *
 (24 : Nat)).ble
 (140737488355328 : Nat)) then
 some
 (Ex.normal,
 { sl := [(0, V.bytes b), (1, V.int IntKind.i64 (wkMB b a)), (2, V.int IntKind.i64 (IntKind.i64.wrap (a + wkMN b a))), (8, V.own (0 : Nat) (l ++ V.agg [V.int IntKind.i64 nx, V.int IntKind.i64 a, V.int IntKind.i64 (wkMN b a)] :: List.replicate (nat_lit 0) (V.agg [V.int IntKind.i64 0, V.int IntKind.i64 0, V.int IntKind.i64 0])).length (Sh.agg [Sh.int IntKind.i64, Sh.int IntKind.i64, Sh.int IntKind.i64]))], hp := [(0, some (Blk.row (170 : Nat) (Sh.agg [Sh.int IntKind.i64, Sh.int IntKind.i64, Sh.int IntKind.i64]) (V.rows (Sh.agg [Sh.int IntKind.i64, Sh.int IntKind.i64, Sh.int IntKind.i64]) (l ++ V.agg [V.int IntKind.i64 nx, V.int IntKind.i64 a, V.int IntKind.i64 (wkMN b a)] :: List.replicate (nat_lit 0) (V.agg [V.int IntKind.i64 0, V.int IntKind.i64 0, V.int IntKind.i64 0])))))], nx := 1, ob := true, n := 62 })
 else none
 else none := by kernel_rfl
structure WkX where
 (b : List UInt8)
 (nx a : Int)
 (l : List V)
def wkSt (x : WkX) : S := match x.l with
 | [] => wkS0 x.b x.nx x.a
 | v :: r => wkS1 x.b x.nx x.a (v :: r)
theorem wkL_m {k : Nat} {b : List UInt8} {nx a : Int} {l : List V} (h : wkM nx l.length ≠ 0) : wkL (k + 1) b nx a l = (wkM nx l.length, nx, a, l) := by rw [wkL, if_neg h]
theorem wkL_e {k : Nat} {b : List UInt8} {nx a : Int} {l : List V} (h : wkM nx l.length = 0) (h1 : wkX nx = false) : wkL (k + 1) b nx a l = (0, nx, a, l) := by rw [wkL, if_pos h, if_neg (by rw [h1]; simp)]
theorem wkL_s {k : Nat} {b : List UInt8} {nx a : Int} {l : List V} (h : wkM nx l.length = 0) (h1 : wkX nx = true) (h2 : wkS b a = true) : wkL (k + 1) b nx a l = (3, nx, a, l) := by rw [wkL, if_pos h, if_pos h1, if_pos h2]
theorem wkL_n {k : Nat} {b : List UInt8} {nx a : Int} {l : List V} (h : wkM nx l.length = 0) (h1 : wkX nx = true) (h2 : wkS b a = false) : wkL (k + 1) b nx a l = wkL k b (gt b a.toNat) (a + wkN b a) (l ++ [pt nx a (wkN b a)]) := by rw [wkL, if_pos h, if_pos h1, if_neg (by rw [h2]; simp)]
theorem wkM_8 {nx : Int} {j : Nat} (h : wkM nx j = 0) (h1 : wkX nx = true) (h8 : j ≤ 8) : j ≤ 7 := by
 rcases Nat.lt_or_ge j 8 with h2 | h2
 ·omega
 ·unfold wkM at h
  split at h
  ·cases h
  ·split at h
   ·cases h
   ·rw [if_pos ⟨h1, by omega⟩] at h; cases h
theorem wkS_n {b : List UInt8} {a : Int} (h0 : 0 ≤ a) (h : wkS b a = false) : 0 < wkN b a ∧ a + wkN b a ≤ b.length := by
 have h := of_decide_eq_false h
 have := gt_lo b (a + 1).toNat
 unfold wkN at *
 omega
theorem wk_loop : LoopOk Tryz.prog wkC.erase [] wkG := by
 refine loopF_ok Ewka_ok (d := 6) (AC.flat_ok (by kernel_rfl)) (Am.ways [0, 1, 2, 8] [0, 1, 2, 8] [6, 7]) [] wkG (X := WkX) wkSt (fun x => wkO x.b (wkL (10 - x.l.length) x.b x.nx x.a x.l)) (fun x => wkI x.b x.a ∧ x.l.length ≤ 8) (fun x => 9 - x.l.length) ?_ ?_
 ·intro s t h
  unfold wkG at h
  split at h
  ·rename_i r hr
   injection h with h; subst h
   obtain ⟨h1, h2, h3, h⟩ := gOf_spec hr
   split at h
   ·rename_i b nx a q1 q2 q3 q4
    injection h with h; injection h with hc ht
    exact ⟨⟨b, nx, a, []⟩, .one h1 h2 (by simp [wkSl, q1, q2, q3, q4]) (by simp), ⟨of_decide_eq_true hc, Nat.zero_le _⟩, ht.symm⟩
   ·cases h
  ·obtain ⟨h1, h2, h3, h⟩ := gOf_spec h
   split at h
   ·rename_i b nx a n T l q1 q2 q3 q4 q5
    injection h with h; injection h with hc ht
    obtain ⟨c1, c2, c3, c4, c5⟩ := of_decide_eq_true hc
    subst c1; subst c2
    refine ⟨⟨b, nx, a, l⟩, ?_, ⟨c3, c5⟩, ht.symm⟩
    cases l with
    | nil => simp at c4
    | cons v r => exact .one h1 h2 (by simp [wkSl, q1, q2, q3, q4, shP]) (by simp [q5, shP])
   ·cases h
 ·rintro ⟨b, nx, a, l⟩ ⟨⟨h0, h1, h2⟩, h8⟩
  simp only at h0 h1 h2 h8 ⊢
  obtain ⟨k, hk⟩ : ∃ k, 10 - l.length = k + 1 := ⟨9 - l.length, by omega⟩
  rw [hk]
  have hlen : ∀ p : V, 10 - (l ++ [p]).length = k := fun p => by rw [List.length_append, List.length_singleton]; omega
  have key : (∃ e, wkM nx l.length = e ∧ e ≠ 0) ∨ wkM nx l.length = 0 := by
   by_cases h : wkM nx l.length = 0
   ·exact .inr h
   ·exact .inl ⟨_, rfl, h⟩
  rcases key with ⟨e, he, hne⟩ | hM
  ·refine .inr ⟨.ret, wkRt e, ?_, nofun, ?_⟩
   ·cases l with
    | nil =>
     rw [show wkSt ⟨b, nx, a, []⟩ = wkS0 b nx a from rfl, wk_b0, show wkM nx 0 = e from he]
     simp (disch := omega) only [tre]
     rfl
    | cons v r =>
     rw [show wkSt ⟨b, nx, a, v :: r⟩ = wkS1 b nx a (v :: r) from rfl, wk_b1, he]
     simp (disch := omega) only [tre]
     rfl
   ·rw [wkL_m (by rw [he]; exact hne), he]
    exact leaf_f (ieq_f hne) .leaf
  cases hX : wkX nx with
  | false =>
   have hO := wkL_e (k := k) (b := b) (a := a) hM hX
   cases l with
   | nil =>
    refine .inr ⟨.exit 0, wkS0 b nx a, ?_, nofun, by rw [hO]; exact leaf_t rfl (leaf_t rfl .leaf)⟩
    rw [show wkSt ⟨b, nx, a, []⟩ = wkS0 b nx a from rfl, wk_b0, show wkM nx 0 = 0 from hM, hX]
    rfl
   | cons v r =>
    refine .inr ⟨.exit 0, wkS1 b nx a (v :: r), ?_, nofun, by rw [hO]; exact leaf_t rfl (leaf_f rfl .leaf)⟩
    rw [show wkSt ⟨b, nx, a, v :: r⟩ = wkS1 b nx a (v :: r) from rfl, wk_b1, hM, hX]
    rfl
  | true =>
   cases hS : wkS b a with
   | true =>
    refine .inr ⟨.ret, wkRt 3, ?_, nofun, by rw [wkL_s hM hX hS]; exact leaf_f rfl .leaf⟩
    have eE : wkME b a = 3 := by unfold wkME; rw [hS]; rfl
    cases l with
    | nil =>
     rw [show wkSt ⟨b, nx, a, []⟩ = wkS0 b nx a from rfl, wk_b0, show wkM nx 0 = 0 from hM, hX, eE]
     simp (disch := omega) only [tre]
     rfl
    | cons v r =>
     rw [show wkSt ⟨b, nx, a, v :: r⟩ = wkS1 b nx a (v :: r) from rfl, wk_b1, hM, hX, eE]
     simp (disch := omega) only [tre]
     rfl
   | false =>
    have eE : wkME b a = 0 := by unfold wkME; rw [hS]; rfl
    have eN : wkMN b a = wkN b a := by unfold wkMN; rw [hS]; rfl
    have eB : wkMB b a = gt b a.toNat := by unfold wkMB; rw [hS]; rfl
    obtain ⟨n1, n2⟩ := wkS_n h0 hS
    have h7 := wkM_8 hM hX h8
    refine .inl ⟨⟨b, gt b a.toNat, a + wkN b a, l ++ [pt nx a (wkN b a)]⟩, ?_, ⟨⟨by dsimp only; omega, by dsimp only; omega, h2⟩, by dsimp only; rw [List.length_append, List.length_singleton]; omega⟩, by dsimp only; rw [List.length_append, List.length_singleton]; omega, leaf_eq ?_⟩
    ·cases l with
     | nil =>
      rw [show wkSt ⟨b, nx, a, []⟩ = wkS0 b nx a from rfl, wk_b0, show wkM nx 0 = 0 from hM, hX, eE, eN, eB, w64 (by omega) (by omega)]
      simp (disch := omega) only [tre]
      rfl
     | cons v r =>
      rw [show wkSt ⟨b, nx, a, v :: r⟩ = wkS1 b nx a (v :: r) from rfl, wk_b1, hM, hX, eE, eN, eB, w64 (by omega) (by omega), show List.replicate (nat_lit 0) (V.agg [V.int IntKind.i64 0, V.int IntKind.i64 0, V.int IntKind.i64 0]) = [] from rfl]
      have hl : ((v :: r ++ [V.agg [V.int IntKind.i64 nx, V.int IntKind.i64 a, V.int IntKind.i64 (wkN b a)]]).length * 24) ≤ 140737488355328 := by rw [List.length_append, List.length_singleton]; omega
      simp (disch := omega) only [tre]
      rfl
    ·rw [wkL_n hM hX hS, hlen]
theorem sums_one_j {P : Program} {ac c : AC} {ts vs : List Nat} {g : S → Option (Bool × Tr)} (e : ac.sums = [(c, ts, vs, g)]) (e' : (ac.jmps.map fun x => x.2.2.2.2) = [fun _ => none]) (h : LoopOk P c.erase vs g) : LoopsOk P ac :=
 .of (by rw [e]; intro x hx; simp only [List.mem_singleton] at hx; subst hx; exact h) (by
  intro x hx s t ht
  have hm := List.mem_map_of_mem (f := fun x : AC × AC × Nat × List Nat × (S → Option (Bool × Tr)) => x.2.2.2.2) hx
  rw [e'] at hm
  rw [List.mem_singleton.1 hm] at ht
  cases ht)
theorem af_wkWalk_ok : AllOk Tryz.prog 115 af_wkWalk := .sums Tryz.func115 (by kernel_rfl) (by kernel_rfl) (by kernel_rfl) (by kernel_rfl) (sums_one_j (c := wkC) (ts := [0, 1, 2, 8]) (by kernel_rfl) (by kernel_rfl) wk_loop)
theorem wkWalk_t (b : List UInt8) (nx a : Int) : callV Ewka af_wkWalk [.bytes b, .int .i64 nx, .int .i64 a] =
 bif decide (a < (0 : Int)) then
 some
 (V.tup
 [V.ownv (170 : Nat) (V.rows (Sh.agg [Sh.int IntKind.i64, Sh.int IntKind.i64, Sh.int IntKind.i64]) []),
 V.int IntKind.i64 2])
 else
 bif decide (a > (↑b.length : Int)) then
 some
 (V.tup
 [V.ownv (170 : Nat) (V.rows (Sh.agg [Sh.int IntKind.i64, Sh.int IntKind.i64, Sh.int IntKind.i64]) []),
 V.int IntKind.i64 2])
 else
 bif decide ((0 : Int) ≤ a ∧ a ≤ (↑b.length : Int) ∧ b.length ≤ (140737488355328 : Nat)) then
 bif (wkL (10 : Nat) b nx a []).1 == (0 : Int) then
 bif
 match (wkL (10 : Nat) b nx a []).snd.snd.2 with
 | [] => true
 | head :: tail => false then
 some
 (V.tup
 [V.ownv (170 : Nat)
 (V.rows (Sh.agg [Sh.int IntKind.i64, Sh.int IntKind.i64, Sh.int IntKind.i64])
 (V.agg
 [V.int IntKind.i64 (wkL (10 : Nat) b nx a []).snd.1,
 V.int IntKind.i64 (wkL (10 : Nat) b nx a []).snd.snd.1,
 V.int IntKind.i64
 (IntKind.i64.wrap ((↑b.length : Int) - (wkL (10 : Nat) b nx a []).snd.snd.1))] ::
 List.replicate (nat_lit 0)
 (V.agg
 [V.int IntKind.i64 0, V.int IntKind.i64 0, V.int IntKind.i64 0]))),
 V.int IntKind.i64 0])
 else
 bif
 andT true
 ((((wkL (10 : Nat) b nx a []).snd.snd.2 ++
 V.agg
 [V.int IntKind.i64 (wkL (10 : Nat) b nx a []).snd.1,
 V.int IntKind.i64 (wkL (10 : Nat) b nx a []).snd.snd.1,
 V.int IntKind.i64
 (IntKind.i64.wrap ((↑b.length : Int) - (wkL (10 : Nat) b nx a []).snd.snd.1))] ::
 List.replicate (nat_lit 0)
 (V.agg
 [V.int IntKind.i64 0, V.int IntKind.i64 0,
 V.int IntKind.i64 0])).length *
 (24 : Nat)).ble
 (140737488355328 : Nat)) then
 some
 (V.tup
 [V.ownv (170 : Nat)
 (V.rows (Sh.agg [Sh.int IntKind.i64, Sh.int IntKind.i64, Sh.int IntKind.i64])
 ((wkL (10 : Nat) b nx a []).snd.snd.2 ++
 V.agg
 [V.int IntKind.i64 (wkL (10 : Nat) b nx a []).snd.1,
 V.int IntKind.i64 (wkL (10 : Nat) b nx a []).snd.snd.1,
 V.int IntKind.i64
 (IntKind.i64.wrap ((↑b.length : Int) - (wkL (10 : Nat) b nx a []).snd.snd.1))] ::
 List.replicate (nat_lit 0)
 (V.agg
 [V.int IntKind.i64 0, V.int IntKind.i64 0,
 V.int IntKind.i64 0]))),
 V.int IntKind.i64 0])
 else none
 else
 some
 (V.tup
 [V.ownv (170 : Nat) (V.rows (Sh.agg [Sh.int IntKind.i64, Sh.int IntKind.i64, Sh.int IntKind.i64]) []),
 V.int IntKind.i64 (wkL (10 : Nat) b nx a []).1])
 else none := by kernel_rfl
def wkE (b : List UInt8) (nx a : Int) : Int := if 0 ≤ a ∧ a ≤ b.length then (wkR 10 b nx a 0).1 else 2
def wkV (b : List UInt8) (nx a : Int) : List V := if 0 ≤ a ∧ a ≤ b.length ∧ (wkR 10 b nx a 0).1 = 0 then (wkR 10 b nx a 0).2 else []
theorem wkL_bd : ∀ (k : Nat) (b : List UInt8) (nx a : Int) (acc : List V), 0 ≤ a → a ≤ b.length → 0 ≤ (wkL k b nx a acc).2.2.1 ∧ (wkL k b nx a acc).2.2.1 ≤ b.length ∧ (wkL k b nx a acc).2.2.2.length ≤ acc.length + k
 | 0, b, nx, a, acc, h0, h1 => ⟨h0, h1, Nat.le_refl _⟩
 | k + 1, b, nx, a, acc, h0, h1 => by
  by_cases hM : wkM nx acc.length = 0
  ·cases hX : wkX nx with
   | false => rw [wkL_e hM hX]; exact ⟨h0, h1, by dsimp only; omega⟩
   | true =>
    cases hS : wkS b a with
    | true => rw [wkL_s hM hX hS]; exact ⟨h0, h1, by dsimp only; omega⟩
    | false =>
     rw [wkL_n hM hX hS]
     obtain ⟨n1, n2⟩ := wkS_n h0 hS
     obtain ⟨i1, i2, i3⟩ := wkL_bd k b (gt b a.toNat) (a + wkN b a) (acc ++ [pt nx a (wkN b a)]) (by omega) n2
     rw [List.length_append, List.length_singleton] at i3
     exact ⟨i1, i2, by omega⟩
  ·rw [wkL_m hM]; exact ⟨h0, h1, by dsimp only; omega⟩
theorem wkWalk_v (b : List UInt8) (nx a : Int) (h : b.length ≤ 140737488355328) : callV Ewka af_wkWalk [.bytes b, .int .i64 nx, .int .i64 a] = some (.tup [.ownv 170 (.rows shP (wkV b nx a)), .int .i64 (wkE b nx a)]) := by
 rw [wkWalk_t]
 unfold wkE wkV
 by_cases h0 : 0 ≤ a ∧ a ≤ b.length
 ·obtain ⟨r1, r2⟩ := wkL_R 10 b nx a []
  obtain ⟨b1, b2, b3⟩ := wkL_bd 10 b nx a [] h0.1 h0.2
  rw [if_pos h0]
  have hI : (0 ≤ a ∧ a ≤ b.length ∧ b.length ≤ 140737488355328) := ⟨h0.1, h0.2, h⟩
  have e1 : (wkR 10 b nx a 0).1 = (wkL 10 b nx a []).1 := r1.symm
  rw [e1, w64 (by omega) (by omega), show List.replicate (nat_lit 0) (V.agg [V.int IntKind.i64 0, V.int IntKind.i64 0, V.int IntKind.i64 0]) = [] from rfl]
  by_cases hz : (wkL 10 b nx a []).1 = 0
  ·rw [if_pos ⟨h0.1, h0.2, hz⟩, hz]
   have r2 := r2 hz
   rw [List.nil_append] at r2
   have r2 : (wkR 10 b nx a 0).2 = _ := r2.symm
   rw [r2]
   have hl : ((wkL 10 b nx a []).2.2.2 ++ [V.agg [V.int IntKind.i64 (wkL 10 b nx a []).2.1, V.int IntKind.i64 (wkL 10 b nx a []).2.2.1, V.int IntKind.i64 (b.length - (wkL 10 b nx a []).2.2.1)]]).length * 24 ≤ 140737488355328 := by
    rw [List.length_append, List.length_singleton]
    simp only [List.length_nil] at b3
    omega
   generalize (wkL 10 b nx a []).2.2.2 = acc at *
   cases acc with
   | nil =>
    simp (disch := omega) only [tre]
    rfl
   | cons v r =>
    simp (disch := omega) only [tre]
    rfl
  ·rw [if_neg (fun hq => hz hq.2.2)]
   simp (disch := omega) only [tre]
   rfl
 ·rw [if_neg h0, if_neg (fun hq => h0 ⟨hq.1, hq.2.1⟩)]
  by_cases h1 : a < 0
  ·simp (disch := omega) only [tre]
   rfl
  ·have h2 : a > b.length := by omega
   simp (disch := omega) only [tre]
   rfl
def cWkWalk : List V → Option (V × Bool)
 | [.bytes b, .int .i64 nx, .int .i64 a] => some (.tup [.ownv 170 (.rows shP (wkV b nx a)), .int .i64 (wkE b nx a)], decide (b.length ≤ 140737488355328))
 | _ => none
theorem wkWalk_con : ∀ vs v, cWkWalk vs = some (v, true) → SpecV Tryz.prog 115 vs v := by
 intro vs v h; unfold cWkWalk at h; split at h
 ·rename_i b nx a
  injection h with h; injection h with h hb; subst h
  exact callV_ok Ewka_ok af_wkWalk_ok (wkWalk_v b nx a (of_decide_eq_true hb))
 ·cases h
noncomputable def af_rWkWalk : AF := afOf Tryz.prog Tryz.f35 []
theorem af_rWkWalk_ok : AllOk Tryz.prog 35 af_rWkWalk := .flat Tryz.func35 (by kernel_rfl) (by kernel_rfl) (by kernel_rfl) (by kernel_rfl) (by kernel_rfl)
def rwE (b : List UInt8) (nx a j : Int) : Int := if 0 ≤ a ∧ a ≤ b.length then (wkR (10 - j.toNat) b nx a j).1 else 2
def rwV (b : List UInt8) (nx a j : Int) : List V := if 0 ≤ a ∧ a ≤ b.length ∧ (wkR (10 - j.toNat) b nx a j).1 = 0 then (wkR (10 - j.toNat) b nx a j).2 else []
def cRW (k : Nat) : List V → Option (V × Bool)
 | [.bytes b, .int .i64 nx, .int .i64 a, .int .i64 j] => some (.tup [.ownv 101 (.rows shP (rwV b nx a j)), .int .i64 (rwE b nx a j)], decide (b.length ≤ 140737488355328 ∧ 0 ≤ j ∧ j ≤ 8 ∧ 8 - j < k))
 | _ => none
noncomputable def Ewr (k : Nat) : Env := ⟨Tryz.prog, [(35, .val [.bytes, .int .i64, .int .i64, .int .i64] (cRW k))], [], [], [], false⟩
theorem Ewr_ok {k : Nat} (h : ∀ vs v, cRW k vs = some (v, true) → SpecV Tryz.prog 35 vs v) : EnvOk (Ewr k) :=
 ⟨by kernel_rfl, .cons (enters_of Tryz.func35 (by kernel_rfl) rfl) h <| .nil, IOk.nil, COk.nil, XOk.nil⟩
theorem rWkWalk_t (k : Nat) (b : List UInt8) (nx a j : Int) : callV (Ewr k) af_rWkWalk [.bytes b, .int .i64 nx, .int .i64 a, .int .i64 j] =
 bif decide (a < (0 : Int)) then
 some
 (V.tup
 [V.ownv (101 : Nat) (V.rows (Sh.agg [Sh.int IntKind.i64, Sh.int IntKind.i64, Sh.int IntKind.i64]) []),
 V.int IntKind.i64 2])
 else
 bif decide (a > (↑b.length : Int)) then
 some
 (V.tup
 [V.ownv (101 : Nat) (V.rows (Sh.agg [Sh.int IntKind.i64, Sh.int IntKind.i64, Sh.int IntKind.i64]) []),
 V.int IntKind.i64 2])
 else
 bif nx == (44 : Int) then
 some
 (V.tup
 [V.ownv (101 : Nat) (V.rows (Sh.agg [Sh.int IntKind.i64, Sh.int IntKind.i64, Sh.int IntKind.i64]) []),
 V.int IntKind.i64 7])
 else
 bif nx == (0 : Int) then
 bif decide (j > (0 : Int)) then
 some
 (V.tup
 [V.ownv (101 : Nat) (V.rows (Sh.agg [Sh.int IntKind.i64, Sh.int IntKind.i64, Sh.int IntKind.i64]) []),
 V.int IntKind.i64 5])
 else
 bif nx != (0 : Int) then
 bif nx != (43 : Int) then
 bif nx != (60 : Int) then
 some
 (V.tup
 [V.ownv (101 : Nat)
 (V.rows (Sh.agg [Sh.int IntKind.i64, Sh.int IntKind.i64, Sh.int IntKind.i64])
 (V.agg
 [V.int IntKind.i64 nx, V.int IntKind.i64 a,
 V.int IntKind.i64 (IntKind.i64.wrap ((↑b.length : Int) - a))] ::
 List.replicate (nat_lit 0)
 (V.agg
 [V.int IntKind.i64 0, V.int IntKind.i64 0,
 V.int IntKind.i64 0]))),
 V.int IntKind.i64 0])
 else
 bif j == (8 : Int) then
 some
 (V.tup
 [V.ownv (101 : Nat)
 (V.rows (Sh.agg [Sh.int IntKind.i64, Sh.int IntKind.i64, Sh.int IntKind.i64]) []),
 V.int IntKind.i64 8])
 else
 bif decide (a > IntKind.i64.wrap ((↑b.length : Int) - (2 : Int))) then
 some
 (V.tup
 [V.ownv (101 : Nat)
 (V.rows (Sh.agg [Sh.int IntKind.i64, Sh.int IntKind.i64, Sh.int IntKind.i64]) []),
 V.int IntKind.i64 3])
 else
 bif andT true (inB (IntKind.i64.wrap (a + (1 : Int))) b.length) then
 bif
 decide
 (IntKind.i64.wrap
 (IntKind.i64.wrap
 ((8 : Int) * IntKind.i64.wrap (gt b (IntKind.i64.wrap (a + (1 : Int))).toNat)) +
 (8 : Int)) >
 IntKind.i64.wrap ((↑b.length : Int) - a)) then
 some
 (V.tup
 [V.ownv (101 : Nat)
 (V.rows (Sh.agg [Sh.int IntKind.i64, Sh.int IntKind.i64, Sh.int IntKind.i64]) []),
 V.int IntKind.i64 3])
 else
 bif andT true (inB (IntKind.i64.wrap (a + (1 : Int))) b.length) then
 bif
 andT (andT true (inB a b.length))
 (decide
 (b.length ≤ (140737488355328 : Nat) ∧
 (0 : Int) ≤ IntKind.i64.wrap (j + (1 : Int)) ∧
 IntKind.i64.wrap (j + (1 : Int)) ≤ (8 : Int) ∧
 (8 : Int) - IntKind.i64.wrap (j + (1 : Int)) < (↑k : Int))) then
 bif
 rwE b (IntKind.i64.wrap (gt b a.toNat))
 (IntKind.i64.wrap
 (a +
 IntKind.i64.wrap
 (IntKind.i64.wrap
 ((8 : Int) *
 IntKind.i64.wrap (gt b (IntKind.i64.wrap (a + (1 : Int))).toNat)) +
 (8 : Int))))
 (IntKind.i64.wrap (j + (1 : Int))) !=
 (0 : Int) then
 some
 (V.tup
 [V.ownv (101 : Nat)
 (V.rows (Sh.agg [Sh.int IntKind.i64, Sh.int IntKind.i64, Sh.int IntKind.i64])
 []),
 V.int IntKind.i64
 (rwE b (IntKind.i64.wrap (gt b a.toNat))
 (IntKind.i64.wrap
 (a +
 IntKind.i64.wrap
 (IntKind.i64.wrap
 ((8 : Int) *
 IntKind.i64.wrap
 (gt b (IntKind.i64.wrap (a + (1 : Int))).toNat)) +
 (8 : Int))))
 (IntKind.i64.wrap (j + (1 : Int))))])
 else
 bif
 andT true
 (((V.agg
 [V.int IntKind.i64 nx, V.int IntKind.i64 a,
 V.int IntKind.i64
 (IntKind.i64.wrap
 (IntKind.i64.wrap
 ((8 : Int) *
 IntKind.i64.wrap
 (gt b (IntKind.i64.wrap (a + (1 : Int))).toNat)) +
 (8 : Int)))] ::
 List.replicate (nat_lit 0)
 (V.agg
 [V.int IntKind.i64 0, V.int IntKind.i64 0,
 V.int IntKind.i64 0]) ++
 rwV b (IntKind.i64.wrap (gt b a.toNat))
 (IntKind.i64.wrap
 (a +
 IntKind.i64.wrap
 (IntKind.i64.wrap
 ((8 : Int) *
 IntKind.i64.wrap
 (gt b (IntKind.i64.wrap (a + (1 : Int))).toNat)) +
 (8 : Int))))
 (IntKind.i64.wrap (j + (1 : Int)))).length *
 (24 : Nat)).ble
 (140737488355328 : Nat)) then
 some
 (V.tup
 [V.ownv (101 : Nat)
 (V.rows (Sh.agg [Sh.int IntKind.i64, Sh.int IntKind.i64, Sh.int IntKind.i64])
 (V.agg
 [V.int IntKind.i64 nx, V.int IntKind.i64 a,
 V.int IntKind.i64
 (IntKind.i64.wrap
 (IntKind.i64.wrap
 ((8 : Int) *
 IntKind.i64.wrap
 (gt b (IntKind.i64.wrap (a + (1 : Int))).toNat)) +
 (8 : Int)))] ::
 List.replicate (nat_lit 0)
 (V.agg
 [V.int IntKind.i64 0, V.int IntKind.i64 0,
 V.int IntKind.i64 0]) ++
 rwV b (IntKind.i64.wrap (gt b a.toNat))
 (IntKind.i64.wrap
 (a +
 IntKind.i64.wrap
 (IntKind.i64.wrap
 ((8 : Int) *
 IntKind.i64.wrap
 (gt b (IntKind.i64.wrap (a + (1 : Int))).toNat)) +
 (8 : Int))))
 (IntKind.i64.wrap (j + (1 : Int))))),
 V.int IntKind.i64 0])
 else none
 else none
 else none
 else none
 else
 bif j == (8 : Int) then
 some
 (V.tup
 [V.ownv (101 : Nat)
 (V.rows (Sh.agg [Sh.int IntKind.i64, Sh.int IntKind.i64, Sh.int IntKind.i64]) []),
 V.int IntKind.i64 8])
 else
 bif decide (a > IntKind.i64.wrap ((↑b.length : Int) - (2 : Int))) then
 some
 (V.tup
 [V.ownv (101 : Nat)
 (V.rows (Sh.agg [Sh.int IntKind.i64, Sh.int IntKind.i64, Sh.int IntKind.i64]) []),
 V.int IntKind.i64 3])
 else
 bif andT true (inB (IntKind.i64.wrap (a + (1 : Int))) b.length) then
 bif
 decide
 (IntKind.i64.wrap
 (IntKind.i64.wrap
 ((8 : Int) * IntKind.i64.wrap (gt b (IntKind.i64.wrap (a + (1 : Int))).toNat)) +
 (8 : Int)) >
 IntKind.i64.wrap ((↑b.length : Int) - a)) then
 some
 (V.tup
 [V.ownv (101 : Nat)
 (V.rows (Sh.agg [Sh.int IntKind.i64, Sh.int IntKind.i64, Sh.int IntKind.i64]) []),
 V.int IntKind.i64 3])
 else
 bif andT true (inB (IntKind.i64.wrap (a + (1 : Int))) b.length) then
 bif
 andT (andT true (inB a b.length))
 (decide
 (b.length ≤ (140737488355328 : Nat) ∧
 (0 : Int) ≤ IntKind.i64.wrap (j + (1 : Int)) ∧
 IntKind.i64.wrap (j + (1 : Int)) ≤ (8 : Int) ∧
 (8 : Int) - IntKind.i64.wrap (j + (1 : Int)) < (↑k : Int))) then
 bif
 rwE b (IntKind.i64.wrap (gt b a.toNat))
 (IntKind.i64.wrap
 (a +
 IntKind.i64.wrap
 (IntKind.i64.wrap
 ((8 : Int) *
 IntKind.i64.wrap (gt b (IntKind.i64.wrap (a + (1 : Int))).toNat)) +
 (8 : Int))))
 (IntKind.i64.wrap (j + (1 : Int))) !=
 (0 : Int) then
 some
 (V.tup
 [V.ownv (101 : Nat)
 (V.rows (Sh.agg [Sh.int IntKind.i64, Sh.int IntKind.i64, Sh.int IntKind.i64]) []),
 V.int IntKind.i64
 (rwE b (IntKind.i64.wrap (gt b a.toNat))
 (IntKind.i64.wrap
 (a +
 IntKind.i64.wrap
 (IntKind.i64.wrap
 ((8 : Int) *
 IntKind.i64.wrap (gt b (IntKind.i64.wrap (a + (1 : Int))).toNat)) +
 (8 : Int))))
 (IntKind.i64.wrap (j + (1 : Int))))])
 else
 bif
 andT true
 (((V.agg
 [V.int IntKind.i64 nx, V.int IntKind.i64 a,
 V.int IntKind.i64
 (IntKind.i64.wrap
 (IntKind.i64.wrap
 ((8 : Int) *
 IntKind.i64.wrap
 (gt b (IntKind.i64.wrap (a + (1 : Int))).toNat)) +
 (8 : Int)))] ::
 List.replicate (nat_lit 0)
 (V.agg
 [V.int IntKind.i64 0, V.int IntKind.i64 0,
 V.int IntKind.i64 0]) ++
 rwV b (IntKind.i64.wrap (gt b a.toNat))
 (IntKind.i64.wrap
 (a +
 IntKind.i64.wrap
 (IntKind.i64.wrap
 ((8 : Int) *
 IntKind.i64.wrap
 (gt b (IntKind.i64.wrap (a + (1 : Int))).toNat)) +
 (8 : Int))))
 (IntKind.i64.wrap (j + (1 : Int)))).length *
 (24 : Nat)).ble
 (140737488355328 : Nat)) then
 some
 (V.tup
 [V.ownv (101 : Nat)
 (V.rows (Sh.agg [Sh.int IntKind.i64, Sh.int IntKind.i64, Sh.int IntKind.i64])
 (V.agg
 [V.int IntKind.i64 nx, V.int IntKind.i64 a,
 V.int IntKind.i64
 (IntKind.i64.wrap
 (IntKind.i64.wrap
 ((8 : Int) *
 IntKind.i64.wrap
 (gt b (IntKind.i64.wrap (a + (1 : Int))).toNat)) +
 (8 : Int)))] ::
 List.replicate (nat_lit 0)
 (V.agg
 [V.int IntKind.i64 0, V.int IntKind.i64 0,
 V.int IntKind.i64 0]) ++
 rwV b (IntKind.i64.wrap (gt b a.toNat))
 (IntKind.i64.wrap
 (a +
 IntKind.i64.wrap
 (IntKind.i64.wrap
 ((8 : Int) *
 IntKind.i64.wrap
 (gt b (IntKind.i64.wrap (a + (1 : Int))).toNat)) +
 (8 : Int))))
 (IntKind.i64.wrap (j + (1 : Int))))),
 V.int IntKind.i64 0])
 else none
 else none
 else none
 else none
 else
 bif j == (8 : Int) then
 some
 (V.tup
 [V.ownv (101 : Nat)
 (V.rows (Sh.agg [Sh.int IntKind.i64, Sh.int IntKind.i64, Sh.int IntKind.i64]) []),
 V.int IntKind.i64 8])
 else
 bif decide (a > IntKind.i64.wrap ((↑b.length : Int) - (2 : Int))) then
 some
 (V.tup
 [V.ownv (101 : Nat)
 (V.rows (Sh.agg [Sh.int IntKind.i64, Sh.int IntKind.i64, Sh.int IntKind.i64]) []),
 V.int IntKind.i64 3])
 else
 bif andT true (inB (IntKind.i64.wrap (a + (1 : Int))) b.length) then
 bif
 decide
 (IntKind.i64.wrap
 (IntKind.i64.wrap
 ((8 : Int) * IntKind.i64.wrap (gt b (IntKind.i64.wrap (a + (1 : Int))).toNat)) +
 (8 : Int)) >
 IntKind.i64.wrap ((↑b.length : Int) - a)) then
 some
 (V.tup
 [V.ownv (101 : Nat)
 (V.rows (Sh.agg [Sh.int IntKind.i64, Sh.int IntKind.i64, Sh.int IntKind.i64]) []),
 V.int IntKind.i64 3])
 else
 bif andT true (inB (IntKind.i64.wrap (a + (1 : Int))) b.length) then
 bif
 andT (andT true (inB a b.length))
 (decide
 (b.length ≤ (140737488355328 : Nat) ∧
 (0 : Int) ≤ IntKind.i64.wrap (j + (1 : Int)) ∧
 IntKind.i64.wrap (j + (1 : Int)) ≤ (8 : Int) ∧
 (8 : Int) - IntKind.i64.wrap (j + (1 : Int)) < (↑k : Int))) then
 bif
 rwE b (IntKind.i64.wrap (gt b a.toNat))
 (IntKind.i64.wrap
 (a +
 IntKind.i64.wrap
 (IntKind.i64.wrap
 ((8 : Int) *
 IntKind.i64.wrap (gt b (IntKind.i64.wrap (a + (1 : Int))).toNat)) +
 (8 : Int))))
 (IntKind.i64.wrap (j + (1 : Int))) !=
 (0 : Int) then
 some
 (V.tup
 [V.ownv (101 : Nat)
 (V.rows (Sh.agg [Sh.int IntKind.i64, Sh.int IntKind.i64, Sh.int IntKind.i64]) []),
 V.int IntKind.i64
 (rwE b (IntKind.i64.wrap (gt b a.toNat))
 (IntKind.i64.wrap
 (a +
 IntKind.i64.wrap
 (IntKind.i64.wrap
 ((8 : Int) *
 IntKind.i64.wrap (gt b (IntKind.i64.wrap (a + (1 : Int))).toNat)) +
 (8 : Int))))
 (IntKind.i64.wrap (j + (1 : Int))))])
 else
 bif
 andT true
 (((V.agg
 [V.int IntKind.i64 nx, V.int IntKind.i64 a,
 V.int IntKind.i64
 (IntKind.i64.wrap
 (IntKind.i64.wrap
 ((8 : Int) *
 IntKind.i64.wrap
 (gt b (IntKind.i64.wrap (a + (1 : Int))).toNat)) +
 (8 : Int)))] ::
 List.replicate (nat_lit 0)
 (V.agg
 [V.int IntKind.i64 0, V.int IntKind.i64 0,
 V.int IntKind.i64 0]) ++
 rwV b (IntKind.i64.wrap (gt b a.toNat))
 (IntKind.i64.wrap
 (a +
 IntKind.i64.wrap
 (IntKind.i64.wrap
 ((8 : Int) *
 IntKind.i64.wrap
 (gt b (IntKind.i64.wrap (a + (1 : Int))).toNat)) +
 (8 : Int))))
 (IntKind.i64.wrap (j + (1 : Int)))).length *
 (24 : Nat)).ble
 (140737488355328 : Nat)) then
 some
 (V.tup
 [V.ownv (101 : Nat)
 (V.rows (Sh.agg [Sh.int IntKind.i64, Sh.int IntKind.i64, Sh.int IntKind.i64])
 (V.agg
 [V.int IntKind.i64 nx, V.int IntKind.i64 a,
 V.int IntKind.i64
 (IntKind.i64.wrap
 (IntKind.i64.wrap
 ((8 : Int) *
 IntKind.i64.wrap
 (gt b (IntKind.i64.wrap (a + (1 : Int))).toNat)) +
 (8 : Int)))] ::
 List.replicate (nat_lit 0)
 (V.agg
 [V.int IntKind.i64 0, V.int IntKind.i64 0,
 V.int IntKind.i64 0]) ++
 rwV b (IntKind.i64.wrap (gt b a.toNat))
 (IntKind.i64.wrap
 (a +
 IntKind.i64.wrap
 (IntKind.i64.wrap
 ((8 : Int) *
 IntKind.i64.wrap
 (gt b (IntKind.i64.wrap (a + (1 : Int))).toNat)) +
 (8 : Int))))
 (IntKind.i64.wrap (j + (1 : Int))))),
 V.int IntKind.i64 0])
 else none
 else none
 else none
 else none
 else
 bif nx != (0 : Int) then
 bif nx != (43 : Int) then
 bif nx != (60 : Int) then
 some
 (V.tup
 [V.ownv (101 : Nat)
 (V.rows (Sh.agg [Sh.int IntKind.i64, Sh.int IntKind.i64, Sh.int IntKind.i64])
 (V.agg
 [V.int IntKind.i64 nx, V.int IntKind.i64 a,
 V.int IntKind.i64 (IntKind.i64.wrap ((↑b.length : Int) - a))] ::
 List.replicate (nat_lit 0)
 (V.agg
 [V.int IntKind.i64 0, V.int IntKind.i64 0,
 V.int IntKind.i64 0]))),
 V.int IntKind.i64 0])
 else
 bif j == (8 : Int) then
 some
 (V.tup
 [V.ownv (101 : Nat)
 (V.rows (Sh.agg [Sh.int IntKind.i64, Sh.int IntKind.i64, Sh.int IntKind.i64]) []),
 V.int IntKind.i64 8])
 else
 bif decide (a > IntKind.i64.wrap ((↑b.length : Int) - (2 : Int))) then
 some
 (V.tup
 [V.ownv (101 : Nat)
 (V.rows (Sh.agg [Sh.int IntKind.i64, Sh.int IntKind.i64, Sh.int IntKind.i64]) []),
 V.int IntKind.i64 3])
 else
 bif andT true (inB (IntKind.i64.wrap (a + (1 : Int))) b.length) then
 bif
 decide
 (IntKind.i64.wrap
 (IntKind.i64.wrap
 ((8 : Int) * IntKind.i64.wrap (gt b (IntKind.i64.wrap (a + (1 : Int))).toNat)) +
 (8 : Int)) >
 IntKind.i64.wrap ((↑b.length : Int) - a)) then
 some
 (V.tup
 [V.ownv (101 : Nat)
 (V.rows (Sh.agg [Sh.int IntKind.i64, Sh.int IntKind.i64, Sh.int IntKind.i64]) []),
 V.int IntKind.i64 3])
 else
 bif andT true (inB (IntKind.i64.wrap (a + (1 : Int))) b.length) then
 bif
 andT (andT true (inB a b.length))
 (decide
 (b.length ≤ (140737488355328 : Nat) ∧
 (0 : Int) ≤ IntKind.i64.wrap (j + (1 : Int)) ∧
 IntKind.i64.wrap (j + (1 : Int)) ≤ (8 : Int) ∧
 (8 : Int) - IntKind.i64.wrap (j + (1 : Int)) < (↑k : Int))) then
 bif
 rwE b (IntKind.i64.wrap (gt b a.toNat))
 (IntKind.i64.wrap
 (a +
 IntKind.i64.wrap
 (IntKind.i64.wrap
 ((8 : Int) *
 IntKind.i64.wrap (gt b (IntKind.i64.wrap (a + (1 : Int))).toNat)) +
 (8 : Int))))
 (IntKind.i64.wrap (j + (1 : Int))) !=
 (0 : Int) then
 some
 (V.tup
 [V.ownv (101 : Nat)
 (V.rows (Sh.agg [Sh.int IntKind.i64, Sh.int IntKind.i64, Sh.int IntKind.i64]) []),
 V.int IntKind.i64
 (rwE b (IntKind.i64.wrap (gt b a.toNat))
 (IntKind.i64.wrap
 (a +
 IntKind.i64.wrap
 (IntKind.i64.wrap
 ((8 : Int) *
 IntKind.i64.wrap (gt b (IntKind.i64.wrap (a + (1 : Int))).toNat)) +
 (8 : Int))))
 (IntKind.i64.wrap (j + (1 : Int))))])
 else
 bif
 andT true
 (((V.agg
 [V.int IntKind.i64 nx, V.int IntKind.i64 a,
 V.int IntKind.i64
 (IntKind.i64.wrap
 (IntKind.i64.wrap
 ((8 : Int) *
 IntKind.i64.wrap
 (gt b (IntKind.i64.wrap (a + (1 : Int))).toNat)) +
 (8 : Int)))] ::
 List.replicate (nat_lit 0)
 (V.agg
 [V.int IntKind.i64 0, V.int IntKind.i64 0,
 V.int IntKind.i64 0]) ++
 rwV b (IntKind.i64.wrap (gt b a.toNat))
 (IntKind.i64.wrap
 (a +
 IntKind.i64.wrap
 (IntKind.i64.wrap
 ((8 : Int) *
 IntKind.i64.wrap
 (gt b (IntKind.i64.wrap (a + (1 : Int))).toNat)) +
 (8 : Int))))
 (IntKind.i64.wrap (j + (1 : Int)))).length *
 (24 : Nat)).ble
 (140737488355328 : Nat)) then
 some
 (V.tup
 [V.ownv (101 : Nat)
 (V.rows (Sh.agg [Sh.int IntKind.i64, Sh.int IntKind.i64, Sh.int IntKind.i64])
 (V.agg
 [V.int IntKind.i64 nx, V.int IntKind.i64 a,
 V.int IntKind.i64
 (IntKind.i64.wrap
 (IntKind.i64.wrap
 ((8 : Int) *
 IntKind.i64.wrap
 (gt b (IntKind.i64.wrap (a + (1 : Int))).toNat)) +
 (8 : Int)))] ::
 List.replicate (nat_lit 0)
 (V.agg
 [V.int IntKind.i64 0, V.int IntKind.i64 0,
 V.int IntKind.i64 0]) ++
 rwV b (IntKind.i64.wrap (gt b a.toNat))
 (IntKind.i64.wrap
 (a +
 IntKind.i64.wrap
 (IntKind.i64.wrap
 ((8 : Int) *
 IntKind.i64.wrap
 (gt b (IntKind.i64.wrap (a + (1 : Int))).toNat)) +
 (8 : Int))))
 (IntKind.i64.wrap (j + (1 : Int))))),
 V.int IntKind.i64 0])
 else none
 else none
 else none
 else none
 else
 bif j == (8 : Int) then
 some
 (V.tup
 [V.ownv (101 : Nat)
 (V.rows (Sh.agg [Sh.int IntKind.i64, Sh.int IntKind.i64, Sh.int IntKind.i64]) []),
 V.int IntKind.i64 8])
 else
 bif decide (a > IntKind.i64.wrap ((↑b.length : Int) - (2 : Int))) then
 some
 (V.tup
 [V.ownv (101 : Nat)
 (V.rows (Sh.agg [Sh.int IntKind.i64, Sh.int IntKind.i64, Sh.int IntKind.i64]) []),
 V.int IntKind.i64 3])
 else
 bif andT true (inB (IntKind.i64.wrap (a + (1 : Int))) b.length) then
 bif
 decide
 (IntKind.i64.wrap
 (IntKind.i64.wrap
 ((8 : Int) * IntKind.i64.wrap (gt b (IntKind.i64.wrap (a + (1 : Int))).toNat)) +
 (8 : Int)) >
 IntKind.i64.wrap ((↑b.length : Int) - a)) then
 some
 (V.tup
 [V.ownv (101 : Nat)
 (V.rows (Sh.agg [Sh.int IntKind.i64, Sh.int IntKind.i64, Sh.int IntKind.i64]) []),
 V.int IntKind.i64 3])
 else
 bif andT true (inB (IntKind.i64.wrap (a + (1 : Int))) b.length) then
 bif
 andT (andT true (inB a b.length))
 (decide
 (b.length ≤ (140737488355328 : Nat) ∧
 (0 : Int) ≤ IntKind.i64.wrap (j + (1 : Int)) ∧
 IntKind.i64.wrap (j + (1 : Int)) ≤ (8 : Int) ∧
 (8 : Int) - IntKind.i64.wrap (j + (1 : Int)) < (↑k : Int))) then
 bif
 rwE b (IntKind.i64.wrap (gt b a.toNat))
 (IntKind.i64.wrap
 (a +
 IntKind.i64.wrap
 (IntKind.i64.wrap
 ((8 : Int) *
 IntKind.i64.wrap (gt b (IntKind.i64.wrap (a + (1 : Int))).toNat)) +
 (8 : Int))))
 (IntKind.i64.wrap (j + (1 : Int))) !=
 (0 : Int) then
 some
 (V.tup
 [V.ownv (101 : Nat)
 (V.rows (Sh.agg [Sh.int IntKind.i64, Sh.int IntKind.i64, Sh.int IntKind.i64]) []),
 V.int IntKind.i64
 (rwE b (IntKind.i64.wrap (gt b a.toNat))
 (IntKind.i64.wrap
 (a +
 IntKind.i64.wrap
 (IntKind.i64.wrap
 ((8 : Int) *
 IntKind.i64.wrap (gt b (IntKind.i64.wrap (a + (1 : Int))).toNat)) +
 (8 : Int))))
 (IntKind.i64.wrap (j + (1 : Int))))])
 else
 bif
 andT true
 (((V.agg
 [V.int IntKind.i64 nx, V.int IntKind.i64 a,
 V.int IntKind.i64
 (IntKind.i64.wrap
 (IntKind.i64.wrap
 ((8 : Int) *
 IntKind.i64.wrap
 (gt b (IntKind.i64.wrap (a + (1 : Int))).toNat)) +
 (8 : Int)))] ::
 List.replicate (nat_lit 0)
 (V.agg
 [V.int IntKind.i64 0, V.int IntKind.i64 0,
 V.int IntKind.i64 0]) ++
 rwV b (IntKind.i64.wrap (gt b a.toNat))
 (IntKind.i64.wrap
 (a +
 IntKind.i64.wrap
 (IntKind.i64.wrap
 ((8 : Int) *
 IntKind.i64.wrap
 (gt b (IntKind.i64.wrap (a + (1 : Int))).toNat)) +
 (8 : Int))))
 (IntKind.i64.wrap (j + (1 : Int)))).length *
 (24 : Nat)).ble
 (140737488355328 : Nat)) then
 some
 (V.tup
 [V.ownv (101 : Nat)
 (V.rows (Sh.agg [Sh.int IntKind.i64, Sh.int IntKind.i64, Sh.int IntKind.i64])
 (V.agg
 [V.int IntKind.i64 nx, V.int IntKind.i64 a,
 V.int IntKind.i64
 (IntKind.i64.wrap
 (IntKind.i64.wrap
 ((8 : Int) *
 IntKind.i64.wrap
 (gt b (IntKind.i64.wrap (a + (1 : Int))).toNat)) +
 (8 : Int)))] ::
 List.replicate (nat_lit 0)
 (V.agg
 [V.int IntKind.i64 0, V.int IntKind.i64 0,
 V.int IntKind.i64 0]) ++
 rwV b (IntKind.i64.wrap (gt b a.toNat))
 (IntKind.i64.wrap
 (a +
 IntKind.i64.wrap
 (IntKind.i64.wrap
 ((8 : Int) *
 IntKind.i64.wrap
 (gt b (IntKind.i64.wrap (a + (1 : Int))).toNat)) +
 (8 : Int))))
 (IntKind.i64.wrap (j + (1 : Int))))),
 V.int IntKind.i64 0])
 else none
 else none
 else none
 else none
 else
 bif j == (8 : Int) then
 some
 (V.tup
 [V.ownv (101 : Nat) (V.rows (Sh.agg [Sh.int IntKind.i64, Sh.int IntKind.i64, Sh.int IntKind.i64]) []),
 V.int IntKind.i64 8])
 else
 bif decide (a > IntKind.i64.wrap ((↑b.length : Int) - (2 : Int))) then
 some
 (V.tup
 [V.ownv (101 : Nat)
 (V.rows (Sh.agg [Sh.int IntKind.i64, Sh.int IntKind.i64, Sh.int IntKind.i64]) []),
 V.int IntKind.i64 3])
 else
 bif andT true (inB (IntKind.i64.wrap (a + (1 : Int))) b.length) then
 bif
 decide
 (IntKind.i64.wrap
 (IntKind.i64.wrap
 ((8 : Int) * IntKind.i64.wrap (gt b (IntKind.i64.wrap (a + (1 : Int))).toNat)) +
 (8 : Int)) >
 IntKind.i64.wrap ((↑b.length : Int) - a)) then
 some
 (V.tup
 [V.ownv (101 : Nat)
 (V.rows (Sh.agg [Sh.int IntKind.i64, Sh.int IntKind.i64, Sh.int IntKind.i64]) []),
 V.int IntKind.i64 3])
 else
 bif andT true (inB (IntKind.i64.wrap (a + (1 : Int))) b.length) then
 bif
 andT (andT true (inB a b.length))
 (decide
 (b.length ≤ (140737488355328 : Nat) ∧
 (0 : Int) ≤ IntKind.i64.wrap (j + (1 : Int)) ∧
 IntKind.i64.wrap (j + (1 : Int)) ≤ (8 : Int) ∧
 (8 : Int) - IntKind.i64.wrap (j + (1 : Int)) < (↑k : Int))) then
 bif
 rwE b (IntKind.i64.wrap (gt b a.toNat))
 (IntKind.i64.wrap
 (a +
 IntKind.i64.wrap
 (IntKind.i64.wrap
 ((8 : Int) *
 IntKind.i64.wrap (gt b (IntKind.i64.wrap (a + (1 : Int))).toNat)) +
 (8 : Int))))
 (IntKind.i64.wrap (j + (1 : Int))) !=
 (0 : Int) then
 some
 (V.tup
 [V.ownv (101 : Nat)
 (V.rows (Sh.agg [Sh.int IntKind.i64, Sh.int IntKind.i64, Sh.int IntKind.i64]) []),
 V.int IntKind.i64
 (rwE b (IntKind.i64.wrap (gt b a.toNat))
 (IntKind.i64.wrap
 (a +
 IntKind.i64.wrap
 (IntKind.i64.wrap
 ((8 : Int) *
 IntKind.i64.wrap (gt b (IntKind.i64.wrap (a + (1 : Int))).toNat)) +
 (8 : Int))))
 (IntKind.i64.wrap (j + (1 : Int))))])
 else
 bif
 andT true
 (((V.agg
 [V.int IntKind.i64 nx, V.int IntKind.i64 a,
 V.int IntKind.i64
 (IntKind.i64.wrap
 (IntKind.i64.wrap
 ((8 : Int) *
 IntKind.i64.wrap
 (gt b (IntKind.i64.wrap (a + (1 : Int))).toNat)) +
 (8 : Int)))] ::
 List.replicate (nat_lit 0)
 (V.agg
 [V.int IntKind.i64 0, V.int IntKind.i64 0,
 V.int IntKind.i64 0]) ++
 rwV b (IntKind.i64.wrap (gt b a.toNat))
 (IntKind.i64.wrap
 (a +
 IntKind.i64.wrap
 (IntKind.i64.wrap
 ((8 : Int) *
 IntKind.i64.wrap
 (gt b (IntKind.i64.wrap (a + (1 : Int))).toNat)) +
 (8 : Int))))
 (IntKind.i64.wrap (j + (1 : Int)))).length *
 (24 : Nat)).ble
 (140737488355328 : Nat)) then
 some
 (V.tup
 [V.ownv (101 : Nat)
 (V.rows (Sh.agg [Sh.int IntKind.i64, Sh.int IntKind.i64, Sh.int IntKind.i64])
 (V.agg
 [V.int IntKind.i64 nx, V.int IntKind.i64 a,
 V.int IntKind.i64
 (IntKind.i64.wrap
 (IntKind.i64.wrap
 ((8 : Int) *
 IntKind.i64.wrap
 (gt b (IntKind.i64.wrap (a + (1 : Int))).toNat)) +
 (8 : Int)))] ::
 List.replicate (nat_lit 0)
 (V.agg
 [V.int IntKind.i64 0, V.int IntKind.i64 0,
 V.int IntKind.i64 0]) ++
 rwV b (IntKind.i64.wrap (gt b a.toNat))
 (IntKind.i64.wrap
 (a +
 IntKind.i64.wrap
 (IntKind.i64.wrap
 ((8 : Int) *
 IntKind.i64.wrap
 (gt b (IntKind.i64.wrap (a + (1 : Int))).toNat)) +
 (8 : Int))))
 (IntKind.i64.wrap (j + (1 : Int))))),
 V.int IntKind.i64 0])
 else none
 else none
 else none
 else none := by kernel_rfl
theorem rw_nil : List.replicate (nat_lit 0) (V.agg [V.int IntKind.i64 0, V.int IntKind.i64 0, V.int IntKind.i64 0]) = [] := rfl
theorem wkR_len : ∀ (k : Nat) (b : List UInt8) (nx a j : Int), (wkR k b nx a j).2.length ≤ k
 | 0, _, _, _, _ => Nat.le_refl _
 | k + 1, b, nx, a, j => by
  have ih := wkR_len k b (gt b a.toNat) (a + wkN b a) (j + 1)
  unfold wkR
  split
  ·split
   ·split
    ·exact Nat.zero_le _
    ·split
     ·simpa using ih
     ·exact Nat.zero_le _
   ·simp
  ·exact Nat.zero_le _
theorem rwE_of {b : List UInt8} {nx a j : Int} {f : Nat} {r : Int × List V} (h0 : 0 ≤ a ∧ a ≤ b.length) (hf : 10 - j.toNat = f) (e : wkR f b nx a j = r) : rwE b nx a j = r.1 := by
 subst hf; subst e; unfold rwE; rw [if_pos h0]
theorem rwV_of {b : List UInt8} {nx a j : Int} {f : Nat} {r : Int × List V} (h0 : 0 ≤ a ∧ a ≤ b.length) (hf : 10 - j.toNat = f) (e : wkR f b nx a j = r) : rwV b nx a j = if r.1 = 0 then r.2 else [] := by
 subst hf; subst e; unfold rwV
 by_cases hz : (wkR (10 - j.toNat) b nx a j).1 = 0
 ·rw [if_pos hz, if_pos (And.intro h0.1 (And.intro h0.2 hz))]
 ·rw [if_neg hz, if_neg (fun hq => hz hq.2.2)]
set_option maxRecDepth 8000 in
set_option maxHeartbeats 1000000 in
theorem rWkWalk_v (k : Nat) (b : List UInt8) (nx a j : Int) (hb : b.length ≤ 140737488355328) (hj0 : 0 ≤ j) (hj8 : j ≤ 8) (hk : 8 - j < k + 1) : callV (Ewr k) af_rWkWalk [.bytes b, .int .i64 nx, .int .i64 a, .int .i64 j] = some (.tup [.ownv 101 (.rows shP (rwV b nx a j)), .int .i64 (rwE b nx a j)]) := by
 rw [rWkWalk_t]
 simp only [rw_nil]
 by_cases h0 : 0 ≤ a ∧ a ≤ b.length
 ·have g1 := gt_lo b (a + 1).toNat
  have g2 := gt_hi b (a + 1).toNat
  have g3 := gt_lo b a.toNat
  have g4 := gt_hi b a.toNat
  rw [w64 (x := (b.length : Int) - a) (by omega) (by omega), w64 (x := (b.length : Int) - 2) (by omega) (by omega), w64 (x := a + 1) (by omega) (by omega), w64 (x := gt b (a + 1).toNat) (by omega) (by omega), w64 (x := 8 * gt b (a + 1).toNat) (by omega) (by omega), w64 (x := 8 * gt b (a + 1).toNat + 8) (by omega) (by omega), w64 (x := gt b a.toNat) (by omega) (by omega), w64 (x := j + 1) (by omega) (by omega), w64 (x := a + (8 * gt b (a + 1).toNat + 8)) (by omega) (by omega)]
  have hN : 8 * gt b (a + 1).toNat + 8 = wkN b a := by unfold wkN; omega
  rw [hN]
  obtain ⟨f, hf⟩ : ∃ f, 10 - j.toNat = f + 1 := ⟨9 - j.toNat, by omega⟩
  by_cases hM : wkM nx j = 0
  ·cases hX : wkX nx with
   | false =>
    have x1 : nx ≠ 0 ∧ nx ≠ 43 ∧ nx ≠ 60 := by simpa [wkX] using hX
    have x2 : nx ≠ 44 := by rintro rfl; simp [wkM] at hM
    have e : wkR (f + 1) b nx a j = (0, [pt nx a (b.length - a)]) := by rw [wkR, if_pos hM, hX]; rfl
    rw [rwE_of h0 hf e, rwV_of h0 hf e]
    simp (disch := omega) only [tre]
    rfl
   | true =>
    have x1 : nx = 0 ∨ nx = 43 ∨ nx = 60 := by simpa [wkX] using hX
    have x2 : ¬ (nx = 0 ∧ 0 < j) := fun hq => by
     unfold wkM at hM
     rw [if_neg (by omega), if_pos hq] at hM
     cases hM
    have x3 : j ≠ 8 := by
     rintro rfl
     unfold wkM at hM
     rw [if_neg (by omega), if_neg x2, if_pos ⟨hX, by omega⟩] at hM
     cases hM
    cases hS : wkS b a with
    | true =>
     have e : wkR (f + 1) b nx a j = (3, []) := by rw [wkR, if_pos hM, if_pos hX, if_pos hS]
     rw [rwE_of h0 hf e, rwV_of h0 hf e]
     have hs := of_decide_eq_true hS
     rcases x1 with x1 | x1 | x1
     all_goals
      by_cases hs1 : a > (b.length : Int) - 2
      ·simp (disch := omega) only [tre]
       rfl
      ·simp (disch := omega) only [tre]
       rfl
    | false =>
     obtain ⟨n1, n2⟩ := wkS_n h0.1 hS
     have hs := of_decide_eq_false hS
     have e : wkR (f + 1) b nx a j = if (wkR f b (gt b a.toNat) (a + wkN b a) (j + 1)).1 = 0 then (0, pt nx a (wkN b a) :: (wkR f b (gt b a.toNat) (a + wkN b a) (j + 1)).2) else ((wkR f b (gt b a.toNat) (a + wkN b a) (j + 1)).1, []) := by rw [wkR, if_pos hM, if_pos hX, if_neg (by rw [hS]; simp)]
     have hf2 : 10 - (j + 1).toNat = f := by omega
     have hin : 0 ≤ a + wkN b a ∧ a + wkN b a ≤ b.length := by omega
     have hlen := wkR_len f b (gt b a.toNat) (a + wkN b a) (j + 1)
     rw [rwE_of hin hf2 rfl, rwV_of hin hf2 rfl, rwE_of h0 hf e, rwV_of h0 hf e]
     by_cases hz : (wkR f b (gt b a.toNat) (a + wkN b a) (j + 1)).1 = 0
     ·rw [if_pos hz, if_pos hz]
      have hl : (V.agg [V.int IntKind.i64 nx, V.int IntKind.i64 a, V.int IntKind.i64 (wkN b a)] :: [] ++ (wkR f b (gt b a.toNat) (a + wkN b a) (j + 1)).2).length * 24 ≤ 140737488355328 := by
       rw [List.length_append, List.length_singleton]; omega
      rcases x1 with x1 | x1 | x1
      all_goals
       simp (disch := omega) only [tre]
       rfl
     ·rw [if_neg hz, if_neg hz]
      rw [if_neg hz]
      rcases x1 with x1 | x1 | x1
      all_goals
       simp (disch := omega) only [tre]
       rfl
  ·have e : wkR (f + 1) b nx a j = (wkM nx j, []) := by rw [wkR, if_neg hM]
   rw [rwE_of h0 hf e, rwV_of h0 hf e, ite_self]
   show _ = some (V.tup [_, V.int _ (wkM nx j)])
   by_cases x0 : nx = 44
   ·have : wkM nx j = 7 := by unfold wkM; rw [if_pos x0]
    rw [this]
    simp (disch := omega) only [tre]
    rfl
   by_cases x1 : nx = 0 ∧ 0 < j
   ·have : wkM nx j = 5 := by unfold wkM; rw [if_neg x0, if_pos x1]
    rw [this]
    simp (disch := omega) only [tre]
    rfl
   have x2 : wkX nx = true ∧ 8 ≤ j := by
    by_cases h : wkX nx = true ∧ 8 ≤ j
    ·exact h
    ·exact absurd (by unfold wkM; rw [if_neg x0, if_neg x1, if_neg h]) hM
   have : wkM nx j = 8 := by unfold wkM; rw [if_neg x0, if_neg x1, if_pos x2]
   rw [this]
   have x3 : nx = 0 ∨ nx = 43 ∨ nx = 60 := by simpa [wkX] using x2.1
   have x4 : j = 8 := by omega
   rcases x3 with x3 | x3 | x3
   ·exact absurd ⟨x3, by omega⟩ x1
   all_goals
    simp (disch := omega) only [tre]
    rfl
 ·have e1 : rwE b nx a j = 2 := by unfold rwE; rw [if_neg h0]
  have e2 : rwV b nx a j = [] := by
   unfold rwV
   split
   ·rename_i hq; exact absurd ⟨hq.1, hq.2.1⟩ h0
   ·rfl
  rw [e1, e2]
  by_cases h1 : a < 0
  ·simp (disch := omega) only [tre]
   rfl
  ·have h2 : a > b.length := by omega
   simp (disch := omega) only [tre]
   rfl
theorem rWk_con : ∀ (k : Nat) (vs : List V) (v : V), cRW k vs = some (v, true) → SpecV Tryz.prog 35 vs v
 | 0, vs, v, h => by
  unfold cRW at h
  split at h
  ·injection h with h; injection h with h hb
   have := of_decide_eq_true hb
   omega
  ·cases h
 | k + 1, vs, v, h => by
  unfold cRW at h
  split at h
  ·rename_i b nx a j
   injection h with h; injection h with h hb; subst h
   obtain ⟨h1, h2, h3, h4⟩ := of_decide_eq_true hb
   exact callV_ok (Ewr_ok (rWk_con k)) af_rWkWalk_ok (rWkWalk_v k b nx a j h1 h2 h3 (by omega))
  ·cases h
def cRWk9 : List V → Option (V × Bool)
 | [.bytes b, .int .i64 nx, .int .i64 a, .int .i64 j] => some (.tup [.ownv 101 (.rows shP (rwV b nx a j)), .int .i64 (rwE b nx a j)], decide (b.length ≤ 140737488355328 ∧ 0 ≤ j ∧ j ≤ 8))
 | _ => none
theorem rWk9_con : ∀ vs v, cRWk9 vs = some (v, true) → SpecV Tryz.prog 35 vs v := by
 intro vs v h
 unfold cRWk9 at h
 split at h
 ·rename_i b nx a j
  injection h with h; injection h with h hb
  have hb := of_decide_eq_true hb
  subst h
  refine rWk_con 9 _ _ ?_
  have hd : decide (b.length ≤ 140737488355328 ∧ 0 ≤ j ∧ j ≤ 8 ∧ 8 - j < (9 : Nat)) = true := decide_eq_true (by omega)
  show some (_, decide (b.length ≤ 140737488355328 ∧ 0 ≤ j ∧ j ≤ 8 ∧ 8 - j < (9 : Nat))) = _
  rw [hd]
 ·cases h
noncomputable def af_sxWith : AF := afOf Tryz.prog Tryz.f152 []
theorem af_sxWith_ok : AllOk Tryz.prog 152 af_sxWith := .flat Tryz.func152 (by kernel_rfl) (by kernel_rfl) (by kernel_rfl) (by kernel_rfl) (by kernel_rfl)
noncomputable def af_sxCan : AF := afOf Tryz.prog Tryz.f145 []
theorem af_sxCan_ok : AllOk Tryz.prog 145 af_sxCan := .flat Tryz.func145 (by kernel_rfl) (by kernel_rfl) (by kernel_rfl) (by kernel_rfl) (by kernel_rfl)
noncomputable def af_rSxCan : AF := afOf Tryz.prog Tryz.f109 [.unr 6]
theorem af_rSxCan_ok : AllOk Tryz.prog 109 af_rSxCan := .flat Tryz.func109 (by kernel_rfl) (by kernel_rfl) (by kernel_rfl) (by kernel_rfl) (by kernel_rfl)
noncomputable def GEsm0 : List (Nat × Con) := []
theorem GEsm0_ok : GOk Tryz.prog GEsm0 := .nil
noncomputable def IEsm0 : List (Nat × AF) := []
theorem IEsm0_ok : IOk Tryz.prog IEsm0 := .nil
noncomputable def CEsm0 : List (Nat × (List Nat × (S → Option (Bool × Tr)))) := []
theorem CEsm0_ok : COk Tryz.prog CEsm0 := .nil
noncomputable def XEsm0 : List (Nat × (List Sh × (List V → PT))) := []
theorem XEsm0_ok : XOk Tryz.prog XEsm0 := .nil
noncomputable def Esm0 : Env := ⟨Tryz.prog, GEsm0, IEsm0, CEsm0, XEsm0, false⟩
theorem Esm0_ok : EnvOk Esm0 := ⟨by kernel_rfl, GEsm0_ok, IEsm0_ok, CEsm0_ok, XEsm0_ok⟩
def wthn (n m : Int) : Int := if m < (if 0 > n then 0 else n) then m else (if 0 > n then 0 else n)
theorem sxWith_t (n m : Int) : callV Esm0 af_sxWith [.int .i64 n, .int .i64 m] = some (.int .i64 (wthn n m)) := by kernel_rfl
theorem wthn_iff {n m : Int} (hm : 0 ≤ m) : wthn n m = n ↔ 0 ≤ n ∧ n ≤ m := by
 unfold wthn
 split <;> split <;> omega
def cSxWith : List V → Option (V × Bool)
 | [.int .i64 n, .int .i64 m] => some (.int .i64 (wthn n m), true)
 | _ => none
theorem sxWith_con : ∀ vs v, cSxWith vs = some (v, true) → SpecV Tryz.prog 152 vs v := by
 intro vs v h; unfold cSxWith at h; split at h
 ·rename_i n m
  injection h with h; injection h with h hb; subst h
  exact callV_ok Esm0_ok af_sxWith_ok (sxWith_t n m)
 ·cases h
noncomputable def GEsma : List (Nat × Con) := [(152, .val [.int .i64, .int .i64] cSxWith)]
theorem GEsma_ok : GOk Tryz.prog GEsma := .cons (enters_of Tryz.func152 (by kernel_rfl) rfl) sxWith_con <| .nil
noncomputable def IEsma : List (Nat × AF) := []
theorem IEsma_ok : IOk Tryz.prog IEsma := .nil
noncomputable def CEsma : List (Nat × (List Nat × (S → Option (Bool × Tr)))) := []
theorem CEsma_ok : COk Tryz.prog CEsma := .nil
noncomputable def XEsma : List (Nat × (List Sh × (List V → PT))) := []
theorem XEsma_ok : XOk Tryz.prog XEsma := .nil
noncomputable def Esma : Env := ⟨Tryz.prog, GEsma, IEsma, CEsma, XEsma, false⟩
theorem Esma_ok : EnvOk Esma := ⟨by kernel_rfl, GEsma_ok, IEsma_ok, CEsma_ok, XEsma_ok⟩
theorem sxCan_t (c la ln nx hp : Int) (s d : List UInt8) : callV Esma af_sxCan [.agg [.int .i64 c, .int .i64 la, .int .i64 ln, .int .i64 nx, .int .i64 hp, .barr 16 s, .barr 16 d]] =
 bif
 !(wthn c (255 : Int) == c &&
 (wthn la (1048575 : Int) == la &&
 (wthn ln (65535 : Int) == ln &&
 (wthn nx (255 : Int) == nx && (wthn hp (255 : Int) == hp && (s == s && (d == d && true))))))) then
 some (V.int IntKind.i64 2)
 else some (V.int IntKind.i64 0) := by kernel_rfl
theorem rSxCan_t (c la ln nx hp : Int) (s d : List UInt8) : callV Esma af_rSxCan [.agg [.int .i64 c, .int .i64 la, .int .i64 ln, .int .i64 nx, .int .i64 hp, .barr 16 s, .barr 16 d]] =
 bif decide (c < (0 : Int)) then some (V.int IntKind.i64 2)
 else
 bif decide (c > (255 : Int)) then some (V.int IntKind.i64 2)
 else
 bif decide (la < (0 : Int)) then some (V.int IntKind.i64 2)
 else
 bif decide (la > (1048575 : Int)) then some (V.int IntKind.i64 2)
 else
 bif decide (ln < (0 : Int)) then some (V.int IntKind.i64 2)
 else
 bif decide (ln > (65535 : Int)) then some (V.int IntKind.i64 2)
 else
 bif decide (nx < (0 : Int)) then some (V.int IntKind.i64 2)
 else
 bif decide (nx > (255 : Int)) then some (V.int IntKind.i64 2)
 else
 bif decide (hp < (0 : Int)) then some (V.int IntKind.i64 2)
 else
 bif decide (hp > (255 : Int)) then some (V.int IntKind.i64 2)
 else some (V.int IntKind.i64 0) := by kernel_rfl
abbrev okX (c la ln nx hp : Int) : Prop := (0 ≤ c ∧ c ≤ 255) ∧ (0 ≤ la ∧ la ≤ 1048575) ∧ (0 ≤ ln ∧ ln ≤ 65535) ∧ (0 ≤ nx ∧ nx ≤ 255) ∧ (0 ≤ hp ∧ hp ≤ 255)
def sxE (c la ln nx hp : Int) : Int := if okX c la ln nx hp then 0 else 2
theorem sxCan_v (c la ln nx hp : Int) (s d : List UInt8) : callV Esma af_sxCan [.agg [.int .i64 c, .int .i64 la, .int .i64 ln, .int .i64 nx, .int .i64 hp, .barr 16 s, .barr 16 d]] = some (.int .i64 (sxE c la ln nx hp)) := by
 rw [sxCan_t]
 unfold sxE
 by_cases h : okX c la ln nx hp
 ·rw [if_pos h]
  obtain ⟨h1, h2, h3, h4, h5⟩ := h
  rw [(wthn_iff (by omega)).2 h1, (wthn_iff (by omega)).2 h2, (wthn_iff (by omega)).2 h3, (wthn_iff (by omega)).2 h4, (wthn_iff (by omega)).2 h5]
  simp
 ·rw [if_neg h]
  have : (wthn c 255 == c && (wthn la 1048575 == la && (wthn ln 65535 == ln && (wthn nx 255 == nx && (wthn hp 255 == hp && (s == s && (d == d && true))))))) = false := by
   rw [Bool.eq_false_iff]
   intro hq
   simp only [Bool.and_eq_true, beq_iff_eq] at hq
   obtain ⟨q1, q2, q3, q4, q5, _⟩ := hq
   exact h ⟨(wthn_iff (by omega)).1 q1, (wthn_iff (by omega)).1 q2, (wthn_iff (by omega)).1 q3, (wthn_iff (by omega)).1 q4, (wthn_iff (by omega)).1 q5⟩
  rw [this]
  rfl
theorem rSxCan_v (c la ln nx hp : Int) (s d : List UInt8) : callV Esma af_rSxCan [.agg [.int .i64 c, .int .i64 la, .int .i64 ln, .int .i64 nx, .int .i64 hp, .barr 16 s, .barr 16 d]] = some (.int .i64 (sxE c la ln nx hp)) := by
 rw [rSxCan_t]
 unfold sxE
 by_cases h : okX c la ln nx hp
 ·rw [if_pos h]
  simp (disch := omega) only [tre]
 ·rw [if_neg h]
  try simp only [andT_t, andT_f, cond_true, cond_false, Bool.and_true, Bool.true_and, beq_self_eq_true]
  repeat' (refine bcase (fun hbc => ?_) (fun hbc => ?_))
  all_goals try simp only [decide_eq_true_eq, beq_iff_eq, bne_iff_ne, ne_eq, Bool.and_eq_true, andT_and, inB_iff, inC_iff, nble_iff, nblt_iff, decide_eq_false_iff_not, Bool.not_eq_true', Bool.not_eq_false', beq_eq_false_iff_ne, bne_eq_false_iff_eq, Bool.true_and, Bool.and_true, inB_iff_f, inC_iff_f, nble_iff_f, Bool.or_eq_true, Bool.not_eq_true, Decidable.not_not] at *
  all_goals first | rfl | (exfalso; omega)
def cSxCan : List V → Option (V × Bool)
 | [.agg [.int .i64 c, .int .i64 la, .int .i64 ln, .int .i64 nx, .int .i64 hp, .barr 16 s, .barr 16 d]] => some (.int .i64 (sxE c la ln nx hp), true)
 | _ => none
theorem sxCan_con : ∀ vs v, cSxCan vs = some (v, true) → SpecV Tryz.prog 145 vs v := by
 intro vs v h; unfold cSxCan at h; split at h
 ·rename_i c la ln nx hp s d
  injection h with h; injection h with h hb; subst h
  exact callV_ok Esma_ok af_sxCan_ok (sxCan_v c la ln nx hp s d)
 ·cases h
theorem rSxCan_con : ∀ vs v, cSxCan vs = some (v, true) → SpecV Tryz.prog 109 vs v := by
 intro vs v h; unfold cSxCan at h; split at h
 ·rename_i c la ln nx hp s d
  injection h with h; injection h with h hb; subst h
  exact callV_ok Esma_ok af_rSxCan_ok (rSxCan_v c la ln nx hp s d)
 ·cases h
noncomputable def af_sxPut : AF := afOf Tryz.prog Tryz.f128 []
theorem af_sxPut_ok : AllOk Tryz.prog 128 af_sxPut := .flat Tryz.func128 (by kernel_rfl) (by kernel_rfl) (by kernel_rfl) (by kernel_rfl) (by kernel_rfl)
noncomputable def af_rSxPut : AF := afOf Tryz.prog Tryz.f86 []
theorem af_rSxPut_ok : AllOk Tryz.prog 86 af_rSxPut := .flat Tryz.func86 (by kernel_rfl) (by kernel_rfl) (by kernel_rfl) (by kernel_rfl) (by kernel_rfl)
noncomputable def GEsmb : List (Nat × Con) := [(145, .val [.agg [.int .i64, .int .i64, .int .i64, .int .i64, .int .i64, .barr 16, .barr 16]] cSxCan), (109, .val [.agg [.int .i64, .int .i64, .int .i64, .int .i64, .int .i64, .barr 16, .barr 16]] cSxCan), (78, .app 5 aP16), (125, .app 5 aP32), (83, .val [.int .i64] cTwo)]
theorem GEsmb_ok : GOk Tryz.prog GEsmb := .cons (enters_of Tryz.func145 (by kernel_rfl) rfl) sxCan_con <| .cons (enters_of Tryz.func109 (by kernel_rfl) rfl) rSxCan_con <| .consA (enters_of Tryz.func78 (by kernel_rfl) rfl) Put16_app <| .consA (enters_of Tryz.func125 (by kernel_rfl) rfl) Put32_app <| .cons (enters_of Tryz.func83 (by kernel_rfl) rfl) Two_con <| .nil
noncomputable def IEsmb : List (Nat × AF) := []
theorem IEsmb_ok : IOk Tryz.prog IEsmb := .nil
noncomputable def CEsmb : List (Nat × (List Nat × (S → Option (Bool × Tr)))) := []
theorem CEsmb_ok : COk Tryz.prog CEsmb := .nil
noncomputable def XEsmb : List (Nat × (List Sh × (List V → PT))) := []
theorem XEsmb_ok : XOk Tryz.prog XEsmb := .nil
noncomputable def Esmb : Env := ⟨Tryz.prog, GEsmb, IEsmb, CEsmb, XEsmb, false⟩
theorem Esmb_ok : EnvOk Esmb := ⟨by kernel_rfl, GEsmb_ok, IEsmb_ok, CEsmb_ok, XEsmb_ok⟩
theorem sxPut_t (l : List UInt8) (c la ln nx hp : Int) (s d : List UInt8) : callA Esmb af_sxPut 5 l [.agg [.int .i64 c, .int .i64 la, .int .i64 ln, .int .i64 nx, .int .i64 hp, .barr 16 s, .barr 16 d]] =
 bif sxE c la ln nx hp != (0 : Int) then some l
 else
 bif
 andT true
 (decide
 ((0 : Int) ≤
 IntKind.u32.wrap
 (bits BinOp.or IntKind.i64
 (bits BinOp.or IntKind.i64 (1610612736 : Int) (IntKind.i64.wrap (c * (1048576 : Int)))) la)) &&
 decide
 (IntKind.u32.wrap
 (bits BinOp.or IntKind.i64
 (bits BinOp.or IntKind.i64 (1610612736 : Int) (IntKind.i64.wrap (c * (1048576 : Int)))) la) <
 (4294967296 : Int)) &&
 (l ++
 four
 (IntKind.u32.wrap
 (bits BinOp.or IntKind.i64
 (bits BinOp.or IntKind.i64 (1610612736 : Int) (IntKind.i64.wrap (c * (1048576 : Int))))
 la))).length.ble
 (140737488355328 : Nat)) then
 bif
 andT true
 ((l ++
 four
 (IntKind.u32.wrap
 (bits BinOp.or IntKind.i64
 (bits BinOp.or IntKind.i64 (1610612736 : Int) (IntKind.i64.wrap (c * (1048576 : Int))))
 la)) ++
 two ln).length.ble
 (140737488355328 : Nat)) then
 bif
 andT true
 (((l ++
 four
 (IntKind.u32.wrap
 (bits BinOp.or IntKind.i64
 (bits BinOp.or IntKind.i64 (1610612736 : Int)
 (IntKind.i64.wrap (c * (1048576 : Int))))
 la)) ++
 two ln ++
 u8 (IntKind.u8.wrap nx) ::
 u8 (IntKind.u8.wrap hp) :: List.replicate (nat_lit 0) (0 : UInt8)).length *
 (1 : Nat)).ble
 (140737488355328 : Nat)) then
 bif
 andT true
 (((l ++
 four
 (IntKind.u32.wrap
 (bits BinOp.or IntKind.i64
 (bits BinOp.or IntKind.i64 (1610612736 : Int)
 (IntKind.i64.wrap (c * (1048576 : Int))))
 la)) ++
 two ln ++
 u8 (IntKind.u8.wrap nx) ::
 u8 (IntKind.u8.wrap hp) :: List.replicate (nat_lit 0) (0 : UInt8) ++
 cutL s (0 : Nat) (16 : Nat)).length *
 (1 : Nat)).ble
 (140737488355328 : Nat)) then
 bif
 andT true
 (((l ++
 four
 (IntKind.u32.wrap
 (bits BinOp.or IntKind.i64
 (bits BinOp.or IntKind.i64 (1610612736 : Int)
 (IntKind.i64.wrap (c * (1048576 : Int))))
 la)) ++
 two ln ++
 u8 (IntKind.u8.wrap nx) ::
 u8 (IntKind.u8.wrap hp) :: List.replicate (nat_lit 0) (0 : UInt8) ++
 cutL s (0 : Nat) (16 : Nat) ++
 cutL d (0 : Nat) (16 : Nat)).length *
 (1 : Nat)).ble
 (140737488355328 : Nat)) then
 some
 (l ++
 four
 (IntKind.u32.wrap
 (bits BinOp.or IntKind.i64
 (bits BinOp.or IntKind.i64 (1610612736 : Int) (IntKind.i64.wrap (c * (1048576 : Int))))
 la)) ++
 two ln ++
 u8 (IntKind.u8.wrap nx) :: u8 (IntKind.u8.wrap hp) :: List.replicate (nat_lit 0) (0 : UInt8) ++
 cutL s (0 : Nat) (16 : Nat) ++
 cutL d (0 : Nat) (16 : Nat))
 else none
 else none
 else none
 else none
 else none := by kernel_rfl
theorem rSxPut_t (c la ln nx hp : Int) (s d : List UInt8) : callV Esmb af_rSxPut [.agg [.int .i64 c, .int .i64 la, .int .i64 ln, .int .i64 nx, .int .i64 hp, .barr 16 s, .barr 16 d]] =
 bif sxE c la ln nx hp != (0 : Int) then some (V.ownv (5 : Nat) (V.bytes []))
 else
 bif
 andT true
 (((u8 (IntKind.u8.wrap (IntKind.i64.wrap ((96 : Int) + IntKind.i64.wrap (c.tdiv (16 : Int))))) ::
 u8
 (IntKind.u8.wrap
 (IntKind.i64.wrap
 (IntKind.i64.wrap (c.tmod (16 : Int) * (16 : Int)) +
 IntKind.i64.wrap (la.tdiv (65536 : Int))))) ::
 List.replicate (nat_lit 0) (0 : UInt8) ++
 two (la.tmod (65536 : Int)) ++
 two ln ++
 u8 (IntKind.u8.wrap nx) :: u8 (IntKind.u8.wrap hp) :: List.replicate (nat_lit 0) (0 : UInt8) ++
 cutL s (0 : Nat) (16 : Nat)).length *
 (1 : Nat)).ble
 (140737488355328 : Nat)) then
 bif
 andT true
 (((u8 (IntKind.u8.wrap (IntKind.i64.wrap ((96 : Int) + IntKind.i64.wrap (c.tdiv (16 : Int))))) ::
 u8
 (IntKind.u8.wrap
 (IntKind.i64.wrap
 (IntKind.i64.wrap (c.tmod (16 : Int) * (16 : Int)) +
 IntKind.i64.wrap (la.tdiv (65536 : Int))))) ::
 List.replicate (nat_lit 0) (0 : UInt8) ++
 two (la.tmod (65536 : Int)) ++
 two ln ++
 u8 (IntKind.u8.wrap nx) ::
 u8 (IntKind.u8.wrap hp) :: List.replicate (nat_lit 0) (0 : UInt8) ++
 cutL s (0 : Nat) (16 : Nat) ++
 cutL d (0 : Nat) (16 : Nat)).length *
 (1 : Nat)).ble
 (140737488355328 : Nat)) then
 some
 (V.ownv (5 : Nat)
 (V.bytes
 (u8 (IntKind.u8.wrap (IntKind.i64.wrap ((96 : Int) + IntKind.i64.wrap (c.tdiv (16 : Int))))) ::
 u8
 (IntKind.u8.wrap
 (IntKind.i64.wrap
 (IntKind.i64.wrap (c.tmod (16 : Int) * (16 : Int)) +
 IntKind.i64.wrap (la.tdiv (65536 : Int))))) ::
 List.replicate (nat_lit 0) (0 : UInt8) ++
 two (la.tmod (65536 : Int)) ++
 two ln ++
 u8 (IntKind.u8.wrap nx) :: u8 (IntKind.u8.wrap hp) :: List.replicate (nat_lit 0) (0 : UInt8) ++
 cutL s (0 : Nat) (16 : Nat) ++
 cutL d (0 : Nat) (16 : Nat))))
 else none
 else none := by kernel_rfl
theorem u8_wrapx (x : Int) : u8 (IntKind.u8.wrap x) = b8 x := rfl
def hd8 (c la ln nx hp : Int) : List UInt8 := [b8 (96 + c / 16), b8 (c % 16 * 16 + la / 65536), b8 (la / 256), b8 la, b8 (ln / 256), b8 ln, b8 nx, b8 hp]
def hdX (c la ln nx hp : Int) (s d : List UInt8) : List UInt8 := if okX c la ln nx hp then hd8 c la ln nx hp ++ (cutL s 0 16 ++ cutL d 0 16) else []
theorem cut16m (s : List UInt8) : (cutL s 0 16).length ≤ 16 := by rw [length_cutL]; omega
theorem hdX_len (c la ln nx hp : Int) (s d : List UInt8) : (hdX c la ln nx hp s d).length ≤ 40 := by
 unfold hdX
 split
 ·have := cut16m s
  have := cut16m d
  rw [List.length_append, List.length_append]
  show 8 + _ ≤ 40
  omega
 ·exact Nat.zero_le _
theorem four_hd {c la : Int} (h1 : 0 ≤ c ∧ c ≤ 255) (h2 : 0 ≤ la ∧ la ≤ 1048575) : four (1610612736 + c * 1048576 + la) = [b8 (96 + c / 16), b8 (c % 16 * 16 + la / 65536), b8 (la / 256), b8 la] := by
 unfold four
 rw [b8_congr (show ((1610612736 + c * 1048576 + la) / 16777216) % 256 = (96 + c / 16) % 256 by omega), b8_congr (show ((1610612736 + c * 1048576 + la) / 65536) % 256 = (c % 16 * 16 + la / 65536) % 256 by omega),
  b8_congr (show ((1610612736 + c * 1048576 + la) / 256) % 256 = (la / 256) % 256 by omega), b8_congr (show (1610612736 + c * 1048576 + la) % 256 = la % 256 by omega)]
theorem sxPut_v (l : List UInt8) (c la ln nx hp : Int) (s d : List UInt8) (hl : l.length + (hdX c la ln nx hp s d).length ≤ 140737488355328) : callA Esmb af_sxPut 5 l [.agg [.int .i64 c, .int .i64 la, .int .i64 ln, .int .i64 nx, .int .i64 hp, .barr 16 s, .barr 16 d]] = some (l ++ hdX c la ln nx hp s d) := by
 rw [sxPut_t]
 unfold hdX sxE at *
 by_cases h : okX c la ln nx hp
 ·rw [if_pos h] at hl ⊢
  rw [if_pos h]
  obtain ⟨h1, h2, h3, h4, h5⟩ := h
  rw [w64 (x := c * 1048576) (by omega) (by omega), or_i64 1610612736 (c * 1048576) 28 (by omega) (by omega) ⟨6, rfl⟩ (by omega) (by omega) (by omega), or_i64 (1610612736 + c * 1048576) la 20 (by omega) (by omega) ⟨1536 + c, by omega⟩ (by omega) (by omega) (by omega),
   wu32 (x := 1610612736 + c * 1048576 + la) (by omega) (by omega), four_hd h1 h2, u8_wrapx, u8_wrapx, show List.replicate (nat_lit 0) (0 : UInt8) = [] from rfl]
  have e : hd8 c la ln nx hp ++ (cutL s 0 16 ++ cutL d 0 16) = [b8 (96 + c / 16), b8 (c % 16 * 16 + la / 65536), b8 (la / 256), b8 la] ++ two ln ++ [b8 nx, b8 hp] ++ cutL s 0 16 ++ cutL d 0 16 := by
   rw [List.append_assoc _ (cutL s 0 16) (cutL d 0 16)]; rfl
  rw [e] at hl ⊢
  simp only [← List.append_assoc]
  simp only [List.length_append] at hl ⊢
  simp (disch := omega) only [tre]
 ·rw [if_neg h]
  simp (disch := omega) only [tre]
  simp [h]
theorem rSxPut_v (c la ln nx hp : Int) (s d : List UInt8) : callV Esmb af_rSxPut [.agg [.int .i64 c, .int .i64 la, .int .i64 ln, .int .i64 nx, .int .i64 hp, .barr 16 s, .barr 16 d]] = some (.ownv 5 (.bytes (hdX c la ln nx hp s d))) := by
 rw [rSxPut_t]
 unfold hdX sxE
 by_cases h : okX c la ln nx hp
 ·rw [if_pos h, if_pos h]
  obtain ⟨h1, h2, h3, h4, h5⟩ := h
  rw [tdv (a := c) (by omega), tmd (a := c) (by omega), tdv (a := la) (by omega), tmd (a := la) (by omega), w64 (x := c / 16) (by omega) (by omega), w64 (x := 96 + c / 16) (by omega) (by omega), w64 (x := c % 16 * 16) (by omega) (by omega), w64 (x := la / 65536) (by omega) (by omega), w64 (x := c % 16 * 16 + la / 65536) (by omega) (by omega)]
  simp only [u8_wrapx, show List.replicate (nat_lit 0) (0 : UInt8) = [] from rfl]
  have e : hd8 c la ln nx hp ++ (cutL s 0 16 ++ cutL d 0 16) = [b8 (96 + c / 16), b8 (c % 16 * 16 + la / 65536)] ++ two (la % 65536) ++ two ln ++ [b8 nx, b8 hp] ++ cutL s 0 16 ++ cutL d 0 16 := by
   have e1 : two (la % 65536) = [b8 (la / 256), b8 la] := by
    unfold two
    rw [b8_congr (show (la % 65536 / 256) % 256 = (la / 256) % 256 by omega), b8_congr (show (la % 65536) % 256 = la % 256 by omega)]
   rw [e1, List.append_assoc _ (cutL s 0 16) (cutL d 0 16)]; rfl
  rw [e]
  have c1 := cut16m s
  have c2 := cut16m d
  have n1 : (two (la % 65536)).length = 2 := rfl
  have n2 : (two ln).length = 2 := rfl
  simp only [List.length_append, List.length_cons, List.length_nil, n1, n2]
  simp (disch := omega) only [tre]
 ·rw [if_neg h, if_neg h]
  simp (disch := omega) only [tre]
def aSxPut : List V → Option (List UInt8 × Bool)
 | [.agg [.int .i64 c, .int .i64 la, .int .i64 ln, .int .i64 nx, .int .i64 hp, .barr 16 s, .barr 16 d]] => some (hdX c la ln nx hp s d, true)
 | _ => none
theorem sxPut_app : AppS Tryz.prog 128 5 aSxPut := callA_app Esmb_ok af_sxPut_ok fun xs y h l hl => by
 unfold aSxPut at h
 split at h
 ·rename_i c la ln nx hp s d
  injection h with h; injection h with h _; subst h
  exact sxPut_v l c la ln nx hp s d hl
 ·cases h
def cRSxPut : List V → Option (V × Bool)
 | [.agg [.int .i64 c, .int .i64 la, .int .i64 ln, .int .i64 nx, .int .i64 hp, .barr 16 s, .barr 16 d]] => some (.ownv 5 (.bytes (hdX c la ln nx hp s d)), true)
 | _ => none
theorem rSxPut_con : ∀ vs v, cRSxPut vs = some (v, true) → SpecV Tryz.prog 86 vs v := by
 intro vs v h; unfold cRSxPut at h; split at h
 ·rename_i c la ln nx hp s d
  injection h with h; injection h with h hb; subst h
  exact callV_ok Esmb_ok af_rSxPut_ok (rSxPut_v c la ln nx hp s d)
 ·cases h
noncomputable def af_sxGet : AF := afOf Tryz.prog Tryz.f96 []
theorem af_sxGet_ok : AllOk Tryz.prog 96 af_sxGet := .flat Tryz.func96 (by kernel_rfl) (by kernel_rfl) (by kernel_rfl) (by kernel_rfl) (by kernel_rfl)
noncomputable def af_rSxGet : AF := afOf Tryz.prog Tryz.f34 [.unr 17]
theorem af_rSxGet_ok : AllOk Tryz.prog 34 af_rSxGet := .flat Tryz.func34 (by kernel_rfl) (by kernel_rfl) (by kernel_rfl) (by kernel_rfl) (by kernel_rfl)
noncomputable def GEsmg : List (Nat × Con) := [(113, .val [.bytes, .int .i64] cU32), (114, .val [.bytes, .int .i64] cU16)]
theorem GEsmg_ok : GOk Tryz.prog GEsmg := .cons (enters_of Tryz.func113 (by kernel_rfl) rfl) U32_con <| .cons (enters_of Tryz.func114 (by kernel_rfl) rfl) U16_con <| .nil
noncomputable def IEsmg : List (Nat × AF) := []
theorem IEsmg_ok : IOk Tryz.prog IEsmg := .nil
noncomputable def CEsmg : List (Nat × (List Nat × (S → Option (Bool × Tr)))) := []
theorem CEsmg_ok : COk Tryz.prog CEsmg := .nil
noncomputable def XEsmg : List (Nat × (List Sh × (List V → PT))) := []
theorem XEsmg_ok : XOk Tryz.prog XEsmg := .nil
noncomputable def Esmg : Env := ⟨Tryz.prog, GEsmg, IEsmg, CEsmg, XEsmg, false⟩
theorem Esmg_ok : EnvOk Esmg := ⟨by kernel_rfl, GEsmg_ok, IEsmg_ok, CEsmg_ok, XEsmg_ok⟩
theorem sxGet_t (b : List UInt8) : callV Esmg af_sxGet [.bytes b] =
 bif decide ((↑b.length : Int) < (40 : Int)) then
 some
 (V.tup
 [V.agg
 [V.int IntKind.i64 0, V.int IntKind.i64 0, V.int IntKind.i64 0,
 V.int IntKind.i64 0, V.int IntKind.i64 0,
 V.barr (16 : Nat) (List.replicate (16 : Nat) (0 : UInt8)),
 V.barr (16 : Nat) (List.replicate (16 : Nat) (0 : UInt8))],
 V.int IntKind.i64 3])
 else
 bif (u32 b (0 : Int)).1.fdiv (268435456 : Int) != (6 : Int) then
 some
 (V.tup
 [V.agg
 [V.int IntKind.i64 0, V.int IntKind.i64 0, V.int IntKind.i64 0,
 V.int IntKind.i64 0, V.int IntKind.i64 0,
 V.barr (16 : Nat) (List.replicate (16 : Nat) (0 : UInt8)),
 V.barr (16 : Nat) (List.replicate (16 : Nat) (0 : UInt8))],
 V.int IntKind.i64 5])
 else
 bif andT (andT true (inB (6 : Int) b.length)) (inB (7 : Int) b.length) && true then
 bif andT true (Am.inC (24 : Int) b.length) && true then
 bif andT true (Am.inC (40 : Int) b.length) && true then
 some
 (V.tup
 [V.agg
 [V.int IntKind.i64
 (IntKind.i64.wrap
 (bits BinOp.and IntKind.u32 ((u32 b (0 : Int)).1.fdiv (1048576 : Int)) (255 : Int))),
 V.int IntKind.i64
 (IntKind.i64.wrap (bits BinOp.and IntKind.u32 (u32 b (0 : Int)).1 (1048575 : Int))),
 V.int IntKind.i64 (u16 b (4 : Int)).1, V.int IntKind.i64 (IntKind.i64.wrap (gt b (6 : Nat))),
 V.int IntKind.i64 (IntKind.i64.wrap (gt b (7 : Nat))),
 V.barr (16 : Nat)
 (List.take (0 : Nat) (List.replicate (16 : Nat) (0 : UInt8)) ++
 (List.take (16 : Nat) (cutL b (8 : Nat) (24 : Nat)) ++
 List.drop ((0 : Nat) + min (16 : Nat) (cutL b (8 : Nat) (24 : Nat)).length)
 (List.replicate (16 : Nat) (0 : UInt8)))),
 V.barr (16 : Nat)
 (List.take (0 : Nat) (List.replicate (16 : Nat) (0 : UInt8)) ++
 (List.take (16 : Nat) (cutL b (24 : Nat) (40 : Nat)) ++
 List.drop ((0 : Nat) + min (16 : Nat) (cutL b (24 : Nat) (40 : Nat)).length)
 (List.replicate (16 : Nat) (0 : UInt8))))],
 V.int IntKind.i64 0])
 else none
 else none
 else none := by kernel_rfl
theorem rSxGet_t (b : List UInt8) : callV Esmg af_rSxGet [.bytes b] =
 bif decide ((↑b.length : Int) < (40 : Int)) then
 some
 (V.tup
 [V.agg
 [V.int IntKind.i64 0, V.int IntKind.i64 0, V.int IntKind.i64 0,
 V.int IntKind.i64 0, V.int IntKind.i64 0,
 V.barr (16 : Nat) (List.replicate (16 : Nat) (0 : UInt8)),
 V.barr (16 : Nat) (List.replicate (16 : Nat) (0 : UInt8))],
 V.int IntKind.i64 3])
 else
 bif andT true (inB (0 : Int) b.length) then
 bif IntKind.u8.wrap ((gt b (0 : Nat)).tdiv (16 : Int)) != (6 : Int) then
 some
 (V.tup
 [V.agg
 [V.int IntKind.i64 0, V.int IntKind.i64 0, V.int IntKind.i64 0,
 V.int IntKind.i64 0, V.int IntKind.i64 0,
 V.barr (16 : Nat) (List.replicate (16 : Nat) (0 : UInt8)),
 V.barr (16 : Nat) (List.replicate (16 : Nat) (0 : UInt8))],
 V.int IntKind.i64 5])
 else
 bif
 andT
 (andT
 (andT
 (andT
 (andT
 (andT
 (andT (andT (andT true (inB (0 : Int) b.length)) (inB (1 : Int) b.length))
 (inB (1 : Int) b.length))
 (inB (2 : Int) b.length))
 (inB (3 : Int) b.length))
 (inB (4 : Int) b.length))
 (inB (5 : Int) b.length))
 (inB (6 : Int) b.length))
 (inB (7 : Int) b.length) &&
 true then
 bif andT (andT true (inB (8 : Int) b.length)) (inB (24 : Int) b.length) && true then
 bif andT (andT true (inB (9 : Int) b.length)) (inB (25 : Int) b.length) && true then
 bif andT (andT true (inB (10 : Int) b.length)) (inB (26 : Int) b.length) && true then
 bif andT (andT true (inB (11 : Int) b.length)) (inB (27 : Int) b.length) && true then
 bif andT (andT true (inB (12 : Int) b.length)) (inB (28 : Int) b.length) && true then
 bif andT (andT true (inB (13 : Int) b.length)) (inB (29 : Int) b.length) && true then
 bif andT (andT true (inB (14 : Int) b.length)) (inB (30 : Int) b.length) && true then
 bif andT (andT true (inB (15 : Int) b.length)) (inB (31 : Int) b.length) && true then
 bif andT (andT true (inB (16 : Int) b.length)) (inB (32 : Int) b.length) && true then
 bif andT (andT true (inB (17 : Int) b.length)) (inB (33 : Int) b.length) && true then
 bif andT (andT true (inB (18 : Int) b.length)) (inB (34 : Int) b.length) && true then
 bif andT (andT true (inB (19 : Int) b.length)) (inB (35 : Int) b.length) && true then
 bif andT (andT true (inB (20 : Int) b.length)) (inB (36 : Int) b.length) && true then
 bif
 andT (andT true (inB (21 : Int) b.length)) (inB (37 : Int) b.length) &&
 true then
 bif
 andT (andT true (inB (22 : Int) b.length)) (inB (38 : Int) b.length) &&
 true then
 bif
 andT (andT true (inB (23 : Int) b.length)) (inB (39 : Int) b.length) &&
 true then
 some
 (V.tup
 [V.agg
 [V.int IntKind.i64
 (IntKind.i64.wrap
 (IntKind.i64.wrap
 (IntKind.i64.wrap ((gt b (0 : Nat)).tmod (16 : Int)) *
 (16 : Int)) +
 IntKind.i64.wrap
 (IntKind.u8.wrap ((gt b (1 : Nat)).tdiv (16 : Int))))),
 V.int IntKind.i64
 (IntKind.i64.wrap
 (IntKind.i64.wrap
 (IntKind.i64.wrap
 (IntKind.i64.wrap ((gt b (1 : Nat)).tmod (16 : Int)) *
 (65536 : Int)) +
 IntKind.i64.wrap
 (IntKind.i64.wrap (gt b (2 : Nat)) * (256 : Int))) +
 IntKind.i64.wrap (gt b (3 : Nat)))),
 V.int IntKind.i64
 (IntKind.i64.wrap
 (IntKind.i64.wrap
 (IntKind.i64.wrap (gt b (4 : Nat)) * (256 : Int)) +
 IntKind.i64.wrap (gt b (5 : Nat)))),
 V.int IntKind.i64 (IntKind.i64.wrap (gt b (6 : Nat))),
 V.int IntKind.i64 (IntKind.i64.wrap (gt b (7 : Nat))),
 V.barr (16 : Nat)
 (((((((((((((((((List.replicate (16 : Nat) (0 : UInt8)).set
 (0 :
 Nat)
 (u8
 (gt
 b
 (8 :
 Nat)))).set
 (1 :
 Nat)
 (u8
 (gt b
 (9 :
 Nat)))).set
 (2 : Nat)
 (u8
 (gt b
 (10 :
 Nat)))).set
 (3 : Nat)
 (u8
 (gt b
 (11 :
 Nat)))).set
 (4 : Nat)
 (u8
 (gt b
 (12 :
 Nat)))).set
 (5 : Nat)
 (u8
 (gt b
 (13 : Nat)))).set
 (6 : Nat)
 (u8 (gt b (14 : Nat)))).set
 (7 : Nat)
 (u8 (gt b (15 : Nat)))).set
 (8 : Nat)
 (u8 (gt b (16 : Nat)))).set
 (9 : Nat) (u8 (gt b (17 : Nat)))).set
 (10 : Nat) (u8 (gt b (18 : Nat)))).set
 (11 : Nat) (u8 (gt b (19 : Nat)))).set
 (12 : Nat) (u8 (gt b (20 : Nat)))).set
 (13 : Nat) (u8 (gt b (21 : Nat)))).set
 (14 : Nat) (u8 (gt b (22 : Nat)))).set
 (15 : Nat) (u8 (gt b (23 : Nat)))),
 V.barr (16 : Nat)
 (((((((((((((((((List.replicate (16 : Nat) (0 : UInt8)).set
 (0 :
 Nat)
 (u8
 (gt
 b
 (24 :
 Nat)))).set
 (1 :
 Nat)
 (u8
 (gt b
 (25 :
 Nat)))).set
 (2 : Nat)
 (u8
 (gt b
 (26 :
 Nat)))).set
 (3 : Nat)
 (u8
 (gt b
 (27 :
 Nat)))).set
 (4 : Nat)
 (u8
 (gt b
 (28 :
 Nat)))).set
 (5 : Nat)
 (u8
 (gt b
 (29 : Nat)))).set
 (6 : Nat)
 (u8 (gt b (30 : Nat)))).set
 (7 : Nat)
 (u8 (gt b (31 : Nat)))).set
 (8 : Nat)
 (u8 (gt b (32 : Nat)))).set
 (9 : Nat) (u8 (gt b (33 : Nat)))).set
 (10 : Nat) (u8 (gt b (34 : Nat)))).set
 (11 : Nat) (u8 (gt b (35 : Nat)))).set
 (12 : Nat) (u8 (gt b (36 : Nat)))).set
 (13 : Nat) (u8 (gt b (37 : Nat)))).set
 (14 : Nat) (u8 (gt b (38 : Nat)))).set
 (15 : Nat) (u8 (gt b (39 : Nat))))],
 V.int IntKind.i64 0])
 else none
 else none
 else none
 else none
 else none
 else none
 else none
 else none
 else none
 else none
 else none
 else none
 else none
 else none
 else none
 else none
 else none
 else none := by kernel_rfl
def gE (b : List UInt8) : Int := if b.length < 40 then 3 else if gt b 0 / 16 ≠ 6 then 5 else 0
def gz (b : List UInt8) (x : Int) : Int := if gE b = 0 then x else 0
def gzb (b l : List UInt8) : List UInt8 := if gE b = 0 then l else List.replicate 16 0
def gC (b : List UInt8) : Int := gz b (gt b 0 % 16 * 16 + gt b 1 / 16)
def gLa (b : List UInt8) : Int := gz b (gt b 1 % 16 * 65536 + gt b 2 * 256 + gt b 3)
def gLn (b : List UInt8) : Int := gz b (gt b 4 * 256 + gt b 5)
def gNx (b : List UInt8) : Int := gz b (gt b 6)
def gHp (b : List UInt8) : Int := gz b (gt b 7)
def gS (b : List UInt8) : List UInt8 := gzb b (cutL b 8 24)
def gD (b : List UInt8) : List UInt8 := gzb b (cutL b 24 40)
theorem cut_map {b : List UInt8} {i n : Nat} (h : i + n ≤ b.length) : cutL b i (i + n) = (List.range n).map fun j => b.getD (i + j) 0 := by
 apply List.ext_getElem
 ·rw [length_cutL, List.length_map, List.length_range]; omega
 ·intro j h1 h2
  rw [List.length_map, List.length_range] at h2
  simp only [cutL, List.getElem_take, List.getElem_drop, List.getElem_map, List.getElem_range]
  rw [List.getD_eq_getElem?_getD, List.getElem?_eq_getElem (by omega)]
  rfl
theorem cut16_list {b : List UInt8} {i : Nat} (h : i + 16 ≤ b.length) : cutL b i (i + 16) = [u8 (gt b i), u8 (gt b (i + 1)), u8 (gt b (i + 2)), u8 (gt b (i + 3)), u8 (gt b (i + 4)), u8 (gt b (i + 5)), u8 (gt b (i + 6)), u8 (gt b (i + 7)), u8 (gt b (i + 8)), u8 (gt b (i + 9)), u8 (gt b (i + 10)), u8 (gt b (i + 11)), u8 (gt b (i + 12)), u8 (gt b (i + 13)), u8 (gt b (i + 14)), u8 (gt b (i + 15))] := by
 rw [cut_map h]
 simp only [u8_gt]
 rfl
theorem take16 (l : List UInt8) (h : l.length = 16) : List.take 0 (List.replicate 16 (0 : UInt8)) ++ (List.take 16 l ++ List.drop (0 + min 16 l.length) (List.replicate 16 0)) = l := by
 have e : List.take 16 l = l := List.take_of_length_le (by omega)
 rw [e, h]
 simp
theorem sxGet_v (b : List UInt8) : callV Esmg af_sxGet [.bytes b] = some (.tup [.agg [.int .i64 (gC b), .int .i64 (gLa b), .int .i64 (gLn b), .int .i64 (gNx b), .int .i64 (gHp b), .barr 16 (gS b), .barr 16 (gD b)], .int .i64 (gE b)]) := by
 rw [sxGet_t]
 have g0 := gt_lo b 0; have g0' := gt_hi b 0; have g1 := gt_lo b 1; have g1' := gt_hi b 1; have g2 := gt_lo b 2; have g2' := gt_hi b 2; have g3 := gt_lo b 3; have g3' := gt_hi b 3
 have g6 := gt_lo b 6; have g6' := gt_hi b 6; have g7 := gt_lo b 7; have g7' := gt_hi b 7
 unfold gC gLa gLn gNx gHp gS gD gz gzb
 by_cases h : b.length < 40
 ·have e : gE b = 3 := by unfold gE; rw [if_pos h]
  rw [e]
  simp (disch := omega) only [tre]
  rfl
 ·have eu : (u32 b 0).1 = ((gt b 0 * 256 + gt b 1) * 256 + gt b 2) * 256 + gt b 3 := by unfold u32; rw [if_pos (by omega)]; rfl
  have ev : (u16 b 4).1 = gt b 4 * 256 + gt b 5 := by unfold u16; rw [if_pos (by omega)]; rfl
  rw [eu, ev]
  generalize hn : ((gt b 0 * 256 + gt b 1) * 256 + gt b 2) * 256 + gt b 3 = n
  rw [fdv (a := n) (b := 268435456) (by omega), fdv (a := n) (b := 1048576) (by omega)]
  have e8 : bits .and .u32 (n / 1048576) 255 = n / 1048576 % 256 := and_mask_u32 _ 8 (by omega) (by omega) (by omega)
  have e20 : bits .and .u32 n 1048575 = n % 1048576 := and_mask_u32 _ 20 (by omega) (by omega) (by omega)
  rw [e8, e20, w64 (x := n / 1048576 % 256) (by omega) (by omega), w64 (x := n % 1048576) (by omega) (by omega), w64 (x := gt b 6) (by omega) (by omega), w64 (x := gt b 7) (by omega) (by omega)]
  rw [show n / 268435456 = gt b 0 / 16 by omega, show n / 1048576 % 256 = gt b 0 % 16 * 16 + gt b 1 / 16 by omega, show n % 1048576 = gt b 1 % 16 * 65536 + gt b 2 * 256 + gt b 3 by omega]
  rw [take16 _ (by rw [length_cutL]; omega), take16 _ (by rw [length_cutL]; omega)]
  by_cases h6 : gt b 0 / 16 = 6
  ·have e : gE b = 0 := by unfold gE; rw [if_neg h, if_neg (by omega)]
   rw [e]
   simp (disch := omega) only [tre]
   rfl
  ·have e : gE b = 5 := by unfold gE; rw [if_neg h, if_pos h6]
   rw [e]
   simp (disch := omega) only [tre]
   rfl
theorem rSxGet_v (b : List UInt8) : callV Esmg af_rSxGet [.bytes b] = some (.tup [.agg [.int .i64 (gC b), .int .i64 (gLa b), .int .i64 (gLn b), .int .i64 (gNx b), .int .i64 (gHp b), .barr 16 (gS b), .barr 16 (gD b)], .int .i64 (gE b)]) := by
 rw [rSxGet_t]
 have g0 := gt_lo b 0; have g0' := gt_hi b 0; have g1 := gt_lo b 1; have g1' := gt_hi b 1; have g2 := gt_lo b 2; have g2' := gt_hi b 2; have g3 := gt_lo b 3; have g3' := gt_hi b 3
 have g4 := gt_lo b 4; have g4' := gt_hi b 4; have g5 := gt_lo b 5; have g5' := gt_hi b 5; have g6 := gt_lo b 6; have g6' := gt_hi b 6; have g7 := gt_lo b 7; have g7' := gt_hi b 7
 unfold gC gLa gLn gNx gHp gS gD gz gzb
 by_cases h : b.length < 40
 ·have e : gE b = 3 := by unfold gE; rw [if_pos h]
  rw [e]
  simp (disch := omega) only [tre]
  rfl
 ·rw [tdv (a := gt b 0) g0, wu8 (x := gt b 0 / 16) (by omega) (by omega)]
  have hc : cutL b 8 24 = _ := cut16_list (b := b) (i := 8) (by omega)
  have hd : cutL b 24 40 = _ := cut16_list (b := b) (i := 24) (by omega)
  by_cases h6 : gt b 0 / 16 = 6
  ·have e : gE b = 0 := by unfold gE; rw [if_neg h, if_neg (by omega)]
   rw [e, hc, hd]
   simp (disch := omega) only [w64, wu32, wu8, tdv, tmd, fdv]
   simp (disch := omega) only [tre]
   rfl
  ·have e : gE b = 5 := by unfold gE; rw [if_neg h, if_pos h6]
   rw [e]
   simp (disch := omega) only [tre]
   rfl
def cSxGet : List V → Option (V × Bool)
 | [.bytes b] => some (.tup [.agg [.int .i64 (gC b), .int .i64 (gLa b), .int .i64 (gLn b), .int .i64 (gNx b), .int .i64 (gHp b), .barr 16 (gS b), .barr 16 (gD b)], .int .i64 (gE b)], true)
 | _ => none
theorem sxGet_con : ∀ vs v, cSxGet vs = some (v, true) → SpecV Tryz.prog 96 vs v := by
 intro vs v h; unfold cSxGet at h; split at h
 ·rename_i b
  injection h with h; injection h with h hb; subst h
  exact callV_ok Esmg_ok af_sxGet_ok (sxGet_v b)
 ·cases h
theorem rSxGet_con : ∀ vs v, cSxGet vs = some (v, true) → SpecV Tryz.prog 34 vs v := by
 intro vs v h; unfold cSxGet at h; split at h
 ·rename_i b
  injection h with h; injection h with h hb; subst h
  exact callV_ok Esmg_ok af_rSxGet_ok (rSxGet_v b)
 ·cases h
end Go.Proofs.YtfhljcbbgckdiaaGreat