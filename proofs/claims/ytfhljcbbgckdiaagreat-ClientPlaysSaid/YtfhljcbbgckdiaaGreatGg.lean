/- Part Gg of the proof: laws used by the law of this claim. -/
import Derived.Test.YtfhljcbbgckdiaaGreatProg
import Derived.Test.YtfhljcbbgckdiaaGreatGd
import Derived.Test.YtfhljcbbgckdiaaGreatGk
import Derived.Test.YtfhljcbbgckdiaaGreatGf
import Derived.Test.YtfhljcbbgckdiaaGreatGe
set_option linter.all false
namespace Go.Proofs.YtfhljcbbgckdiaaGreat
open Go.RowKit Go.Mix Go.Bas
def parse (l : List UInt8) : Option (List (Int × List UInt8)) :=
 match l with
 | [] => some []
 | [x] => if x = 0 then some [] else none
 | x :: m :: s =>
  if x = 0 then parse (m :: s) else if s.length < m.toNat then none
  else if x = 4 then parse (s.drop m.toNat) else (parse (s.drop m.toNat)).map (((x.toNat : Int), s.take m.toNat) :: ·)
termination_by l.length
decreasing_by all_goals (simp only [List.length_cons, List.length_drop]; omega)
theorem gt_zero {l : List UInt8} {i : Nat} (h : i < l.length) : gt l i = 0 ↔ l[i] = 0 := by
 rw [gt_of_lt h]
 constructor
 ·intro e; exact UInt8.toNat_inj.1 (by simpa using e)
 ·intro e; rw [e]; rfl
theorem gt_four {l : List UInt8} {i : Nat} (h : i < l.length) : gt l i = 4 ↔ l[i] = 4 := by
 rw [gt_of_lt h]
 constructor
 ·intro e; exact UInt8.toNat_inj.1 (by simp; omega)
 ·intro e; rw [e]; rfl
theorem parse_end {l : List UInt8} {i : Nat} (h : l.length ≤ i) : parse (l.drop i) = some [] := by
 rw [List.drop_eq_nil_of_le h, parse]
theorem parse_zero {l : List UInt8} {i : Nat} (h : i < l.length) (hz : gt l i = 0) : parse (l.drop i) = parse (l.drop (i + 1)) := by
 have hz' := (gt_zero h).1 hz
 rw [List.drop_eq_getElem_cons h, hz']
 rcases Nat.lt_or_ge (i + 1) l.length with h1 | h1
 ·rw [List.drop_eq_getElem_cons h1, parse, if_pos rfl]
 ·rw [List.drop_eq_nil_of_le h1, parse, parse, if_pos rfl]
theorem parse_one {l : List UInt8} {i : Nat} (h : i + 1 = l.length) (hz : gt l i ≠ 0) : parse (l.drop i) = none := by
 have hz' := mt (gt_zero (l := l) (i := i) (by omega)).2 hz
 rw [List.drop_eq_getElem_cons (by omega), List.drop_eq_nil_of_le (by omega), parse, if_neg hz']
theorem parse_short {l : List UInt8} {i : Nat} (h : i + 1 < l.length) (hz : gt l i ≠ 0) (hs : (l.length : Int) - i - 2 < gt l (i + 1)) : parse (l.drop i) = none := by
 have hz' := mt (gt_zero (l := l) (i := i) (by omega)).2 hz
 rw [gt_of_lt h] at hs
 rw [List.drop_eq_getElem_cons (by omega), List.drop_eq_getElem_cons h, parse, if_neg hz', if_pos (by simp; omega)]
theorem parse_part {l : List UInt8} {i : Nat} (h : i + 1 < l.length) (hz : gt l i ≠ 0) (hs : ¬ ((l.length : Int) - i - 2 < gt l (i + 1))) :
  parse (l.drop i) = if gt l i = 4 then parse (l.drop (i + 2 + (gt l (i + 1)).toNat)) else (parse (l.drop (i + 2 + (gt l (i + 1)).toNat))).map ((gt l i, (l.drop (i + 2)).take (gt l (i + 1)).toNat) :: ·) := by
 have hz' := mt (gt_zero (l := l) (i := i) (by omega)).2 hz
 rw [gt_of_lt h] at hs ⊢
 have h4 := gt_four (l := l) (i := i) (by omega)
 rw [List.drop_eq_getElem_cons (by omega), List.drop_eq_getElem_cons h, parse, if_neg hz', if_neg (by simp; omega), List.drop_drop, Int.toNat_natCast]
 by_cases h5 : gt l i = 4
 ·rw [if_pos h5, if_pos (h4.1 h5)]
 ·rw [if_neg h5, if_neg (mt h4.2 h5), gt_of_lt (by omega)]
end Go.Proofs.YtfhljcbbgckdiaaGreat
namespace Go.Proofs.YtfhljcbbgckdiaaGreat
open Go Go.Am Go.RowKit Go.Mix Go.Bas
set_option maxRecDepth 100000
def tlP (v : V) : Int × List UInt8 := (toI ((toG v).headD .undef), toL ((toG v).tail.headD .undef))
def tls (l : List V) : List (Int × List UInt8) := l.map tlP
theorem tls_next {l : List V} {k : Nat} (h : k < l.length) : tls (l.drop k) = tlP (l.getD k .undef) :: tls (l.drop (k + 1)) := by
 rw [drop_next (d := V.undef) h]; rfl
noncomputable def GEtv0 : List (Nat × Con) := []
theorem GEtv0_ok : GOk Tryz.prog GEtv0 := .nil
noncomputable def IEtv0 : List (Nat × AF) := []
theorem IEtv0_ok : IOk Tryz.prog IEtv0 := .nil
noncomputable def CEtv0 : List (Nat × (List Nat × (S → Option (Bool × Tr)))) := []
theorem CEtv0_ok : COk Tryz.prog CEtv0 := .nil
noncomputable def XEtv0 : List (Nat × (List Sh × (List V → PT))) := []
theorem XEtv0_ok : XOk Tryz.prog XEtv0 := .nil
noncomputable def Etv0 : Env := ⟨Tryz.prog, GEtv0, IEtv0, CEtv0, XEtv0, false⟩
theorem Etv0_ok : EnvOk Etv0 := ⟨by kernel_rfl, GEtv0_ok, IEtv0_ok, CEtv0_ok, XEtv0_ok⟩
theorem u8_wrap (x : Int) : u8 (IntKind.u8.wrap x) = b8 x := rfl
def rowS (t : Nat) (b : List UInt8) (sl : List (Nat × V)) (n : Nat) : S := ⟨sl ++ [(t, .own 0 b.length (.int .u8))], [(0, some (.row 5 (.int .u8) (.bytes b)))], 1, true, n⟩
def growS (t : Nat) : Option (List UInt8) → List (Nat × V) → Nat → S
 | none, sl, n => ⟨sl ++ [(t, .nils)], [], 0, true, n⟩
 | some b, sl, n => rowS t b sl n
def noP (L : List (Int × List UInt8)) : Bool := L.isEmpty
def orG (f g : S → Option (Bool × Tr)) (s : S) : Option (Bool × Tr) := match f s with
 | some x => some x
 | none => g s
theorem orG_spec {f g : S → Option (Bool × Tr)} {s : S} {x : Bool × Tr} (h : orG f g s = some x) : f s = some x ∨ g s = some x := by
 unfold orG at h
 split at h
 ·rename_i y hy; rw [hy]; exact .inl h
 ·exact .inr h
def putB (L : List (Int × List UInt8)) : List UInt8 := (put L).1
def tlV (p : Int × List UInt8) : V := .agg [.int .i64 p.1, .bytes p.2]
def growV (t : Nat) : Option (List V) → List (Nat × V) → List (Nat × V) → Nat → S
 | none, sl, sr, n => ⟨sl ++ (t, .nils) :: sr, [], 0, true, n⟩
 | some L, sl, sr, n => ⟨sl ++ (t, .own 0 L.length (.agg [.int .i64, .bytes])) :: sr, [(0, some (.row 187 (.agg [.int .i64, .bytes]) (.rows (.agg [.int .i64, .bytes]) L)))], 1, true, n⟩
def noV (p : Option (List (Int × List UInt8))) : Bool := p.isNone
def paV (p : Option (List (Int × List UInt8))) : List V := (p.getD []).map tlV
def emV (l : List V) : Bool := l.isEmpty
def pqT (e1 : Ex) (n : S) (e0 : Ex) (f : Option (List V) → S) (b : List UInt8) (ob : Option (List V)) : Tr :=
 .br (noV (parse b)) (.leaf e1 n) (.br (ob.isNone && emV (paV (parse b))) (.leaf e0 (f none)) (.leaf e0 (f (some (ob.getD [] ++ paV (parse b))))))
section
variable {e1 e0 : Ex} {n : S} {f : Option (List V) → S}
theorem pj_end {b : List UInt8} (h : parse b = some []) (ob : Option (List V)) : Leaf (pqT e1 n e0 f b ob) e0 (f ob) := by
 unfold pqT
 rw [h]
 cases ob with
 | none => exact leaf_f rfl (leaf_t rfl .leaf)
 | some L => exact leaf_f rfl (leaf_f rfl (by show Leaf (.leaf e0 (f (some (L ++ [])))) _ _; rw [List.append_nil]; exact .leaf))
theorem pj_no {b : List UInt8} (h : parse b = none) (ob : Option (List V)) : Leaf (pqT e1 n e0 f b ob) e1 n := by
 unfold pqT
 rw [h]
 exact leaf_t rfl .leaf
theorem pj_same {b b' : List UInt8} (h : parse b = parse b') (ob : Option (List V)) : pqT e1 n e0 f b' ob = pqT e1 n e0 f b ob := by
 unfold pqT
 rw [h]
theorem pj_part {b b' : List UInt8} {p : Int × List UInt8} (h : parse b = (parse b').map (p :: ·)) (ob : Option (List V)) : ∀ e s, Leaf (pqT e1 n e0 f b' (some (ob.getD [] ++ [tlV p]))) e s → Leaf (pqT e1 n e0 f b ob) e s := by
 intro e s hl
 cases hp : parse b' with
 | none =>
  rw [hp] at h
  unfold pqT at hl ⊢
  rw [hp] at hl
  rw [h]
  cases hl with
  | t h => exact leaf_t rfl h
 | some r =>
  rw [hp] at h
  unfold pqT at hl ⊢
  rw [hp] at hl
  rw [h]
  cases hl with
  | f h => cases h with
   | f h =>
    refine leaf_f rfl (leaf_f (by simp [emV, paV]) ?_)
    have : ob.getD [] ++ [tlV p] ++ paV (some r) = ob.getD [] ++ paV (Option.map (fun x => p :: x) (some r)) := by simp [paV]
    rw [show (some (ob.getD [] ++ [tlV p])).getD [] = ob.getD [] ++ [tlV p] from rfl, this] at h
    exact h
end
def pjT (b : List UInt8) (ob : Option (List V)) : Tr := pqT .ret (growV 2 none [] [(3, .int .i64 3)] 56) .ret (fun o => growV 2 o [] [(3, .int .i64 0)] 56) b ob
def pjSt (b : List UInt8) (ob : Option (List V)) : S := growV 4 ob [(0, .bytes b)] [] 56
abbrev pjI (b : List UInt8) (ob : Option (List V)) : Prop := (ob.getD []).length + b.length ≤ 1000000000000
def pjG0 : S → Option (Bool × Tr) := gOf 56 0 fun sl _ => match sl 0, sl 4 with
 | some (.bytes b), some .nils => some (decide (pjI b none), pjT b none)
 | _, _ => none
def pjG1 : S → Option (Bool × Tr) := gOf 56 1 fun sl hp => match sl 0, sl 4, hp 0 with
 | some (.bytes b), some (.own 0 m (.agg [.int .i64, .bytes])), some (.row T (.agg [.int .i64, .bytes]) (.rows (.agg [.int .i64, .bytes]) L)) => some (decide (m = L.length ∧ T = 187 ∧ pjI b (some L)), pjT b (some L))
 | _, _, _ => none
noncomputable def af_tlvParse : AF := afOf Tryz.prog Tryz.f136 [.jmp 0 [0, 4] [] (orG pjG0 pjG1)]
noncomputable def pjC : AC := (af_tlvParse.ac.jmps.headD (.skip, .skip, 0, [], fun _ => none)).1
noncomputable def pjR : AC := (af_tlvParse.ac.jmps.headD (.skip, .skip, 0, [], fun _ => none)).2.1
noncomputable def GEtvf : List (Nat × Con) := [(121, .val [.bytes] cClone)]
theorem GEtvf_ok : GOk Tryz.prog GEtvf := .cons (enters_of Tryz.func121 (by kernel_rfl) rfl) Clone_con <| .nil
noncomputable def IEtvf : List (Nat × AF) := []
theorem IEtvf_ok : IOk Tryz.prog IEtvf := .nil
noncomputable def CEtvf : List (Nat × (List Nat × (S → Option (Bool × Tr)))) := []
theorem CEtvf_ok : COk Tryz.prog CEtvf := .nil
noncomputable def XEtvf : List (Nat × (List Sh × (List V → PT))) := []
theorem XEtvf_ok : XOk Tryz.prog XEtvf := .nil
noncomputable def Etvf : Env := ⟨Tryz.prog, GEtvf, IEtvf, CEtvf, XEtvf, false⟩
theorem Etvf_ok : EnvOk Etvf := ⟨by kernel_rfl, GEtvf_ok, IEtvf_ok, CEtvf_ok, XEtvf_ok⟩
def wrE (b : List UInt8) : Int := IntKind.i64.wrap (2 + IntKind.i64.wrap (gt b 1))
def prP (b : List UInt8) : V := .agg [.int .i64 (IntKind.i64.wrap (gt b 0)), .bytes (cutL b 2 (wrE b).toNat)]
theorem tlvParse_b (b : List UInt8) (ob : Option (List V)) : aev Etvf (inlN Etvf 6) pjR (jumpK 0 [0, 4] [2, 3] []) (pjSt b ob) =
  bif (b.length : Int) == 0 then some (.ret, growV 2 ob [] [(3, .int .i64 0)] 56) else
  bif andT true (inB 0 b.length) then
   bif gt b 0 == 0 then bif andT true (Am.inC 1 b.length) then some (.goto 0, pjSt (cutL b 1 b.length) ob) else none else
   bif decide ((b.length : Int) < 2) then some (.ret, growV 2 none [] [(3, .int .i64 3)] 56) else
   bif andT true (inB 1 b.length) then
    bif decide (IntKind.i64.wrap (gt b 1) > IntKind.i64.wrap ((b.length : Int) - 2)) then some (.ret, growV 2 none [] [(3, .int .i64 3)] 56) else
    bif andT true (inB 1 b.length) then bif andT true (inB 0 b.length) then
     bif gt b 0 != 4 then
      bif andT (andT (andT (andT true (inB 0 b.length)) (Am.inC 2 (wrE b).toNat && Am.inC (wrE b) b.length)) (decide ((cutL b 2 (wrE b).toNat).length ≤ 140737488355328))) (((ob.getD [] ++ [prP b]).length * 32).ble 140737488355328) && true then
       bif andT true (Am.inC (wrE b) b.length) then some (.goto 0, pjSt (cutL b (wrE b).toNat b.length) (some (ob.getD [] ++ [prP b]))) else none
      else none
     else bif andT true (Am.inC (wrE b) b.length) then some (.goto 0, pjSt (cutL b (wrE b).toNat b.length) ob) else none
    else none else none
   else none
  else none := by
 cases ob <;> kernel_rfl
structure PjS where
 (b : List UInt8)
 (ob : Option (List V))
theorem pj_jump : JumpOk Tryz.prog pjC.erase 0 [] (orG pjG0 pjG1) := by
 refine jump_ok Etvf_ok (d := 6) (rest := pjR) (by kernel_rfl) (AC.flat_ok (by kernel_rfl)) [0, 4] [2, 3] [] (orG pjG0 pjG1) (X := PjS) (fun x => pjSt x.b x.ob) (fun x => pjT x.b x.ob) (fun x => pjI x.b x.ob) (fun x => x.b.length) ?_ ?_
 ·intro s t h
  rcases orG_spec h with h | h
  ·obtain ⟨h1, h2, h3, h⟩ := gOf_spec h
   split at h
   ·rename_i b q1 q2
    injection h with h; injection h with hc ht
    exact ⟨⟨b, none⟩, .one h1 h2 (by simp [q1, q2]) (by simp), of_decide_eq_true hc, ht.symm⟩
   ·cases h
  ·obtain ⟨h1, h2, h3, h⟩ := gOf_spec h
   split at h
   ·rename_i b m T L q1 q2 q3
    injection h with h; injection h with hc ht
    obtain ⟨c1, c2, c3⟩ := of_decide_eq_true hc
    subst c1; subst c2
    exact ⟨⟨b, some L⟩, .one h1 h2 (by simp [q1, q2]) (by simp [q3]), c3, ht.symm⟩
   ·cases h
 ·rintro ⟨b, ob⟩ hI
  simp only at hI ⊢
  rw [tlvParse_b]
  by_cases h0 : b.length = 0
  ·refine .inr ⟨.ret, growV 2 ob [] [(3, .int .i64 0)] 56, ?_, nofun, pj_end (by have := parse_end (l := b) (i := 0) (by omega); rwa [List.drop_zero] at this) ob⟩
   simp (disch := omega) only [tre]
  ·have g0 := gt_lo b 0
   have g1 := gt_hi b 0
   have g2 := gt_lo b 1
   have g3 := gt_hi b 1
   by_cases hz : gt b 0 = 0
   ·have e : parse b = parse (b.drop 1) := by have := parse_zero (l := b) (i := 0) (by omega) hz; rwa [List.drop_zero] at this
    refine .inl ⟨⟨b.drop 1, ob⟩, ?_, ?_, ?_, leaf_eq (pj_same e ob)⟩
    ·rw [← cutL_all]
     simp (disch := omega) only [tre]
    ·show (ob.getD []).length + (b.drop 1).length ≤ _
     rw [List.length_drop]
     omega
    ·show (b.drop 1).length < b.length
     rw [List.length_drop]
     omega
   ·by_cases h1 : b.length = 1
    ·refine .inr ⟨.ret, growV 2 none [] [(3, .int .i64 3)] 56, ?_, nofun, pj_no (by have := parse_one (l := b) (i := 0) (by omega) hz; rwa [List.drop_zero] at this) ob⟩
     simp (disch := omega) only [tre]
    ·by_cases hs : (b.length : Int) - 2 < gt b 1
     ·refine .inr ⟨.ret, growV 2 none [] [(3, .int .i64 3)] 56, ?_, nofun, pj_no (by have := parse_short (l := b) (i := 0) (by omega) hz (by simpa using hs); rwa [List.drop_zero] at this) ob⟩
      simp (disch := omega) only [tre]
     ·have hp := parse_part (l := b) (i := 0) (by omega) hz (by simpa using hs)
      obtain ⟨k, hk⟩ := Int.eq_ofNat_of_zero_le g2
      simp only [List.drop_zero, Nat.zero_add, hk, Int.toNat_natCast] at hp
      have hE : wrE b = ((2 + k : Nat) : Int) := by unfold wrE; simp (disch := omega) only [hk, w64]; omega
      rw [hE, Int.toNat_natCast]
      have hdl : (b.drop (2 + k)).length = b.length - (2 + k) := List.length_drop
      by_cases h4 : gt b 0 = 4
      ·rw [if_pos h4] at hp
       refine .inl ⟨⟨b.drop (2 + k), ob⟩, ?_, ?_, ?_, leaf_eq (pj_same hp ob)⟩
       ·rw [← cutL_all b (2 + k)]
        simp (disch := omega) only [tre]
       ·show (ob.getD []).length + (b.drop (2 + k)).length ≤ _
        omega
       ·show (b.drop (2 + k)).length < b.length
        omega
      ·rw [if_neg h4] at hp
       have hP : prP b = tlV (gt b 0, (b.drop 2).take k) := by
        unfold prP tlV
        simp (disch := omega) only [hE, w64, Int.toNat_natCast]
        simp only [cutL]
        rw [show 2 + k - 2 = k by omega]
       have hc : (cutL b 2 (2 + k)).length = k := by rw [cutL_len (by omega)]; omega
       have hl : (ob.getD [] ++ [prP b]).length = (ob.getD []).length + 1 := by simp
       rw [hP] at hl ⊢
       refine .inl ⟨⟨b.drop (2 + k), some (ob.getD [] ++ [tlV (gt b 0, (b.drop 2).take k)])⟩, ?_, ?_, ?_, pj_part hp ob⟩
       ·rw [← cutL_all b (2 + k)]
        simp (disch := omega) only [tre]
       ·show (ob.getD [] ++ [tlV (gt b 0, (b.drop 2).take k)]).length + (b.drop (2 + k)).length ≤ _
        omega
       ·show (b.drop (2 + k)).length < b.length
        omega
theorem af_tlvParse_ok : AllOk Tryz.prog 136 af_tlvParse := .sums Tryz.func136 (by kernel_rfl) (by kernel_rfl) (by kernel_rfl) (by kernel_rfl) (jmps_one (c := pjC) (rest := pjR) (by kernel_rfl) (by kernel_rfl) pj_jump)
def peI (p : Option (List (Int × List UInt8))) : Int := if p.isNone then 3 else 0
def tvR (l : List V) (e : Int) : V := .tup [.ownv 187 (.rows (.agg [.int .i64, .bytes]) l), .int .i64 e]
def tvD (b : List UInt8) : Option (List V) → Bool
 | none => decide (pjI b none)
 | some L => decide (L.length = L.length ∧ (187 : TypeId) = 187 ∧ pjI b (some L))
def tvF (b : List UInt8) (ob : Option (List V)) : Option V := bif tvD b ob then bif noV (parse b) then some (tvR [] 3) else bif ob.isNone && emV (paV (parse b)) then some (tvR [] 0) else some (tvR (ob.getD [] ++ paV (parse b)) 0) else none
def tvO (p : Option (List (Int × List UInt8))) (ob : Option (List V)) : V := tvR (if p.isNone then [] else ob.getD [] ++ paV p) (peI p)
theorem tvF_ok {b : List UInt8} {ob : Option (List V)} (h : pjI b ob) : tvF b ob = some (tvO (parse b) ob) := by
 unfold tvF
 rw [show tvD b ob = true by
  cases ob with
  | none => exact decide_eq_true h
  | some L => exact decide_eq_true ⟨rfl, rfl, h⟩, cond_true]
 cases hp : parse b with
 | none => rfl
 | some r => cases ob with
  | none => cases r <;> rfl
  | some L => rfl
theorem tvO_part (p : Int × List UInt8) (q : Option (List (Int × List UInt8))) : tvO q (some [tlV p]) = tvO (q.map (p :: ·)) none := by
 cases q <;> rfl
theorem tvO_none (q : Option (List (Int × List UInt8))) : tvO q none = tvR (paV q) (peI q) := by
 cases q <;> rfl
theorem tlvParse_t (b : List UInt8) : callV Etvf af_tlvParse [.bytes b] =
  bif (b.length : Int) == 0 then some (tvR [] 0) else
  bif andT true (inB 0 b.length) then
   bif gt b 0 == 0 then bif andT true (Am.inC 1 b.length) then tvF (cutL b 1 b.length) none else none else
   bif decide ((b.length : Int) < 2) then some (tvR [] 3) else
   bif andT true (inB 1 b.length) then
    bif decide (IntKind.i64.wrap (gt b 1) > IntKind.i64.wrap ((b.length : Int) - 2)) then some (tvR [] 3) else
    bif andT true (inB 1 b.length) then bif andT true (inB 0 b.length) then
     bif gt b 0 != 4 then
      bif andT (andT (andT (andT true (inB 0 b.length)) (Am.inC 2 (wrE b).toNat && Am.inC (wrE b) b.length)) (decide ((cutL b 2 (wrE b).toNat).length ≤ 140737488355328))) (([prP b].length * 32).ble 140737488355328) && true then
       bif andT true (Am.inC (wrE b) b.length) then tvF (cutL b (wrE b).toNat b.length) (some [prP b]) else none
      else none
     else bif andT true (Am.inC (wrE b) b.length) then tvF (cutL b (wrE b).toNat b.length) none else none
    else none else none
   else none
  else none := by kernel_rfl
theorem tlvParse_v (b : List UInt8) (h : b.length ≤ 1000000000) : callV Etvf af_tlvParse [.bytes b] = some (tvR (paV (parse b)) (peI (parse b))) := by
 rw [tlvParse_t, ← tvO_none]
 by_cases h0 : b.length = 0
 ·have e := parse_end (l := b) (i := 0) (by omega)
  rw [List.drop_zero] at e
  rw [e]
  simp (disch := omega) only [tre]
  rfl
 ·have g0 := gt_lo b 0
  have g1 := gt_hi b 0
  have g2 := gt_lo b 1
  have g3 := gt_hi b 1
  by_cases hz : gt b 0 = 0
  ·have e : parse b = parse (b.drop 1) := by have := parse_zero (l := b) (i := 0) (by omega) hz; rwa [List.drop_zero] at this
   have hdl : (b.drop 1).length = b.length - 1 := List.length_drop
   rw [e, cutL_all b 1, tvF_ok (b := b.drop 1) (ob := none) (by show 0 + (b.drop 1).length ≤ _; omega)]
   simp (disch := omega) only [tre]
  ·by_cases h1 : b.length = 1
   ·have e : parse b = none := by have := parse_one (l := b) (i := 0) (by omega) hz; rwa [List.drop_zero] at this
    rw [e]
    simp (disch := omega) only [tre]
    rfl
   ·by_cases hs : (b.length : Int) - 2 < gt b 1
    ·have e : parse b = none := by have := parse_short (l := b) (i := 0) (by omega) hz (by simpa using hs); rwa [List.drop_zero] at this
     rw [e]
     simp (disch := omega) only [tre]
     rfl
    ·have hp := parse_part (l := b) (i := 0) (by omega) hz (by simpa using hs)
     obtain ⟨k, hk⟩ := Int.eq_ofNat_of_zero_le g2
     simp only [List.drop_zero, Nat.zero_add, hk, Int.toNat_natCast] at hp
     have hE : wrE b = ((2 + k : Nat) : Int) := by unfold wrE; simp (disch := omega) only [hk, w64]; omega
     rw [hE, Int.toNat_natCast, cutL_all b (2 + k)]
     have hdl : (b.drop (2 + k)).length = b.length - (2 + k) := List.length_drop
     by_cases h4 : gt b 0 = 4
     ·rw [if_pos h4] at hp
      rw [hp, tvF_ok (b := b.drop (2 + k)) (ob := none) (by show 0 + (b.drop (2 + k)).length ≤ _; omega)]
      simp (disch := omega) only [tre]
     ·rw [if_neg h4] at hp
      have hP : prP b = tlV (gt b 0, (b.drop 2).take k) := by
       unfold prP tlV
       simp (disch := omega) only [hE, w64, Int.toNat_natCast]
       simp only [cutL]
       rw [show 2 + k - 2 = k by omega]
      have hc : (cutL b 2 (2 + k)).length = k := by rw [cutL_len (by omega)]; omega
      rw [hP, hp, tvF_ok (b := b.drop (2 + k)) (ob := some [tlV (gt b 0, (b.drop 2).take k)]) (by show 1 + (b.drop (2 + k)).length ≤ _; omega), tvO_part]
      have hl : [tlV (gt b 0, (b.drop 2).take k)].length = 1 := rfl
      simp (disch := omega) only [tre]
def cTlvParse : List V → Option (V × Bool)
 | [.bytes b] => some (tvR (paV (parse b)) (peI (parse b)), decide (b.length ≤ 1000000000))
 | _ => none
theorem tlvParse_con : ∀ vs v, cTlvParse vs = some (v, true) → SpecV Tryz.prog 136 vs v := by
 intro vs v h; unfold cTlvParse at h; split at h
 ·rename_i b
  injection h with h; injection h with h hb; subst h
  exact callV_ok Etvf_ok af_tlvParse_ok (tlvParse_v b (of_decide_eq_true hb))
 ·cases h
end Go.Proofs.YtfhljcbbgckdiaaGreat
namespace Go.Proofs.YtfhljcbbgckdiaaGreat
open Go Go.Am Go.RowKit Go.Mix Go.Bas
set_option maxRecDepth 100000
def rkT (b : List UInt8) (ob : Option (List V)) : Tr := pqT .ret (growV 2 none [] [(3, .int .i64 3)] 69) (.exit 0) (fun o => growV 4 o [] [] 69) b ob
def rkSt (b : List UInt8) (a : Int) (ob : Option (List V)) : S := growV 4 ob [(0, .bytes b), (5, .int .i64 a)] [] 69
abbrev rkI (b : List UInt8) (a : Int) (ob : Option (List V)) : Prop := 0 ≤ a ∧ a ≤ b.length ∧ b.length ≤ 1000000000 ∧ ((ob.getD []).length : Int) ≤ a
def rkG0 : S → Option (Bool × Tr) := gOf 69 0 fun sl _ => match sl 0, sl 5, sl 4 with
 | some (.bytes b), some (.int .i64 a), some .nils => some (decide (rkI b a none), rkT (b.drop a.toNat) none)
 | _, _, _ => none
def rkG1 : S → Option (Bool × Tr) := gOf 69 1 fun sl hp => match sl 0, sl 5, sl 4, hp 0 with
 | some (.bytes b), some (.int .i64 a), some (.own 0 m (.agg [.int .i64, .bytes])), some (.row T (.agg [.int .i64, .bytes]) (.rows (.agg [.int .i64, .bytes]) L)) => some (decide (m = L.length ∧ T = 187 ∧ rkI b a (some L)), rkT (b.drop a.toNat) (some L))
 | _, _, _, _ => none
noncomputable def af_rTlvParse : AF := afOf Tryz.prog Tryz.f92 [.sum [0, 5, 4] [] (orG rkG0 rkG1)]
noncomputable def rkC : AC := (af_rTlvParse.ac.sums.headD (.skip, [], [], fun _ => none)).1
def rkO (a : Int) : Int := IntKind.i64.wrap (a + 1)
def rkE (b : List UInt8) (a : Int) : Int := IntKind.i64.wrap (IntKind.i64.wrap (a + 2) + IntKind.i64.wrap (gt b (rkO a).toNat))
def rkD (b : List UInt8) (a : Int) : List UInt8 := List.replicate 0 0 ++ cutL b (IntKind.i64.wrap (a + 2)).toNat (rkE b a).toNat
def rkP (b : List UInt8) (a : Int) : V := .agg [.int .i64 (IntKind.i64.wrap (gt b a.toNat)), .bytes (rkD b a)]
theorem rTlvParse_b (b : List UInt8) (a : Int) (ob : Option (List V)) : aev Etvf (inlN Etvf 6) rkC (bodyF (Am.ways [0, 5, 4] [4] [2, 3]) []) (rkSt b a ob) =
  bif decide (a < b.length) then
   bif andT true (inB a b.length) then
    bif gt b a.toNat == 0 then some (.normal, rkSt b (rkO a) ob) else
    bif a == IntKind.i64.wrap ((b.length : Int) - 1) then some (.ret, growV 2 none [] [(3, .int .i64 3)] 69) else
    bif andT true (inB (rkO a) b.length) then
     bif decide (IntKind.i64.wrap (gt b (rkO a).toNat) > IntKind.i64.wrap (IntKind.i64.wrap ((b.length : Int) - a) - 2)) then some (.ret, growV 2 none [] [(3, .int .i64 3)] 69) else
     bif andT true (inB (rkO a) b.length) then bif andT true (inB a b.length) then
      bif gt b a.toNat != 4 then
       bif andT (andT (andT (andT true (inB a b.length)) (Am.inC (IntKind.i64.wrap (a + 2)) (rkE b a).toNat && Am.inC (rkE b a) b.length)) (((rkD b a).length * 1).ble 140737488355328)) (((ob.getD [] ++ [rkP b a]).length * 32).ble 140737488355328) && true then
        some (.normal, rkSt b (rkE b a) (some (ob.getD [] ++ [rkP b a])))
       else none
      else some (.normal, rkSt b (rkE b a) ob)
     else none else none
    else none
   else none
  else some (.exit 0, growV 4 ob [] [] 69) := by
 cases ob <;> kernel_rfl
structure RkS where
 (b : List UInt8)
 (a : Int)
 (ob : Option (List V))
theorem rk_loop : LoopOk Tryz.prog rkC.erase [] (orG rkG0 rkG1) := by
 refine loopF_ok Etvf_ok (d := 6) (AC.flat_ok (by kernel_rfl)) (Am.ways [0, 5, 4] [4] [2, 3]) [] (orG rkG0 rkG1) (X := RkS) (fun x => rkSt x.b x.a x.ob) (fun x => rkT (x.b.drop x.a.toNat) x.ob) (fun x => rkI x.b x.a x.ob) (fun x => (x.b.length - x.a).toNat) ?_ ?_
 ·intro s t h
  rcases orG_spec h with h | h
  ·obtain ⟨h1, h2, h3, h⟩ := gOf_spec h
   split at h
   ·rename_i b a q1 q2 q3
    injection h with h; injection h with hc ht
    exact ⟨⟨b, a, none⟩, .one h1 h2 (by simp [q1, q2, q3]) (by simp), of_decide_eq_true hc, ht.symm⟩
   ·cases h
  ·obtain ⟨h1, h2, h3, h⟩ := gOf_spec h
   split at h
   ·rename_i b a m T L q1 q2 q3 q4
    injection h with h; injection h with hc ht
    obtain ⟨c1, c2, c3⟩ := of_decide_eq_true hc
    subst c1; subst c2
    exact ⟨⟨b, a, some L⟩, .one h1 h2 (by simp [q1, q2, q3]) (by simp [q4]), c3, ht.symm⟩
   ·cases h
 ·rintro ⟨b, a, ob⟩ ⟨h0, h1, hM, hr⟩
  simp only at h0 h1 hM hr ⊢
  obtain ⟨i, rfl⟩ := Int.eq_ofNat_of_zero_le h0
  rw [rTlvParse_b]
  simp only [Int.toNat_natCast]
  by_cases hlt : i < b.length
  ·have hO : i + 1 < b.length → rkO i = ((i + 1 : Nat) : Int) := fun _ => by unfold rkO; rw [w64 (by omega) (by omega)]; omega
   have hO' : rkO i = ((i + 1 : Nat) : Int) := by unfold rkO; rw [w64 (by omega) (by omega)]; omega
   have g0 := gt_lo b i
   have g1 := gt_hi b i
   have g2 := gt_lo b (i + 1)
   have g3 := gt_hi b (i + 1)
   by_cases hz : gt b i = 0
   ·have e := parse_zero (l := b) (i := i) hlt hz
    refine .inl ⟨⟨b, (i + 1 : Nat), ob⟩, ?_, ⟨by dsimp only; omega, by dsimp only; omega, hM, by dsimp only; omega⟩, by dsimp only; omega, leaf_eq (pj_same e ob)⟩
    rw [hO']
    simp (disch := omega) only [tre]
   ·rw [hO', Int.toNat_natCast]
    by_cases h1 : i + 1 = b.length
    ·refine .inr ⟨.ret, growV 2 none [] [(3, .int .i64 3)] 69, ?_, nofun, pj_no (parse_one (l := b) (i := i) h1 hz) ob⟩
     simp (disch := omega) only [tre]
    ·by_cases hs : (b.length : Int) - i - 2 < gt b (i + 1)
     ·refine .inr ⟨.ret, growV 2 none [] [(3, .int .i64 3)] 69, ?_, nofun, pj_no (parse_short (l := b) (i := i) (by omega) hz hs) ob⟩
      simp (disch := omega) only [tre]
     ·have hp := parse_part (l := b) (i := i) (by omega) hz hs
      obtain ⟨k, hk⟩ := Int.eq_ofNat_of_zero_le g2
      simp only [hk, Int.toNat_natCast] at hp
      have hE : rkE b i = ((i + 2 + k : Nat) : Int) := by unfold rkE; simp (disch := omega) only [hO', Int.toNat_natCast, hk, w64]; omega
      rw [hE, Int.toNat_natCast]
      have hdl : (b.drop (i + 2 + k)).length = b.length - (i + 2 + k) := List.length_drop
      by_cases h4 : gt b i = 4
      ·rw [if_pos h4] at hp
       refine .inl ⟨⟨b, (i + 2 + k : Nat), ob⟩, ?_, ⟨by dsimp only; omega, by dsimp only; omega, hM, by dsimp only; omega⟩, by dsimp only; omega, leaf_eq (pj_same hp ob)⟩
       simp (disch := omega) only [tre]
      ·rw [if_neg h4] at hp
       have hD : rkD b i = (b.drop (i + 2)).take k := by
        unfold rkD
        simp (disch := omega) only [hE, w64, Int.toNat_natCast, cutL, List.replicate_zero, List.nil_append]
        rw [show ((i : Int) + 2).toNat = i + 2 by omega, show i + 2 + k - (i + 2) = k by omega]
       have hP : rkP b i = tlV (gt b i, (b.drop (i + 2)).take k) := by
        unfold rkP tlV
        rw [hD]
        simp (disch := omega) only [w64, Int.toNat_natCast]
       have hc : (rkD b i).length = k := by rw [hD, List.length_take, List.length_drop]; omega
       have hl : (ob.getD [] ++ [rkP b i]).length = (ob.getD []).length + 1 := by simp
       rw [hP] at hl ⊢
       refine .inl ⟨⟨b, (i + 2 + k : Nat), some (ob.getD [] ++ [tlV (gt b i, (b.drop (i + 2)).take k)])⟩, ?_, ⟨by dsimp only; omega, by dsimp only; omega, hM, ?_⟩, by dsimp only; omega, pj_part hp ob⟩
       ·simp (disch := omega) only [tre]
       ·show ((ob.getD [] ++ [tlV (gt b i, (b.drop (i + 2)).take k)]).length : Int) ≤ ((i + 2 + k : Nat) : Int)
        omega
  ·have e : parse (b.drop i) = some [] := parse_end (by omega)
   refine .inr ⟨.exit 0, growV 4 ob [] [] 69, ?_, nofun, pj_end e ob⟩
   simp (disch := omega) only [tre]
theorem af_rTlvParse_ok : AllOk Tryz.prog 92 af_rTlvParse := .sums Tryz.func92 (by kernel_rfl) (by kernel_rfl) (by kernel_rfl) (by kernel_rfl) (sums_one (c := rkC) (ts := [0, 5, 4]) (by kernel_rfl) (by kernel_rfl) rk_loop)
def rkF (b : List UInt8) : Option V := bif decide (rkI b 0 none) then bif noV (parse (b.drop 0)) then some (tvR [] 3) else bif emV (paV (parse (b.drop 0))) then some (tvR [] 0) else some (tvR (paV (parse (b.drop 0))) 0) else none
theorem rTlvParse_t (b : List UInt8) : callV Etvf af_rTlvParse [.bytes b] = rkF b := by kernel_rfl
theorem rTlvParse_v (b : List UInt8) (h : b.length ≤ 1000000000) : callV Etvf af_rTlvParse [.bytes b] = some (tvR (paV (parse b)) (peI (parse b))) := by
 rw [rTlvParse_t]
 unfold rkF
 rw [dec_t (show rkI b 0 none by exact ⟨by omega, by omega, h, by show ((0 : Nat) : Int) ≤ 0; omega⟩), cond_true, List.drop_zero]
 cases hp : parse b with
 | none => rfl
 | some r => cases r <;> rfl
theorem rTlvParse_con : ∀ vs v, cTlvParse vs = some (v, true) → SpecV Tryz.prog 92 vs v := by
 intro vs v h; unfold cTlvParse at h; split at h
 ·rename_i b
  injection h with h; injection h with h hb; subst h
  exact callV_ok Etvf_ok af_rTlvParse_ok (rTlvParse_v b (of_decide_eq_true hb))
 ·cases h
open Classical in
noncomputable def eqV (l m : List V) : Bool := decide (l = m)
end Go.Proofs.YtfhljcbbgckdiaaGreat