/- Part Gky of the proof: laws used by the law of this claim. -/
import Derived.Laws.BitsAllLaws
import Derived.Test.YtfhljcbbgckdiaaGreatProg
import Derived.Test.YtfhljcbbgckdiaaGreatGz
import Derived.Test.YtfhljcbbgckdiaaGreatGf
import Derived.Test.YtfhljcbbgckdiaaGreatGfl
set_option linter.all false
namespace Go.Am
open Go Go.RowKit Go.Bas
theorem wu64 {x : Int} (h0 : 0 ≤ x) (h1 : x ≤ 18446744073709551615) : IntKind.u64.wrap x = x := by
 simp [IntKind.wrap, IntKind.signed, IntKind.bits]; omega
def wdN : List UInt8 → Nat
 | [] => 0
 | x :: r => x.toNat + 256 * wdN r
theorem wdN_lt : ∀ l : List UInt8, wdN l < 256 ^ l.length
 | [] => by simp [wdN]
 | x :: r => by
  have h1 := wdN_lt r
  have h2 := x.toNat_lt
  rw [wdN, List.length_cons, Nat.pow_succ]
  omega
theorem wdN_app : ∀ (l : List UInt8) (x : UInt8), wdN (l ++ [x]) = wdN l + 256 ^ l.length * x.toNat
 | [], x => by simp [wdN]
 | y :: l, x => by
  rw [List.cons_append, wdN, wdN_app l x, wdN, List.length_cons, Nat.pow_succ, Nat.mul_add]
  have : 256 * (256 ^ l.length * x.toNat) = 256 ^ l.length * 256 * x.toNat := by
   rw [← Nat.mul_assoc, Nat.mul_comm 256 (256 ^ l.length)]
  omega
theorem pow256 (k : Nat) : 256 ^ k = 2 ^ (8 * k) := by
 rw [Nat.pow_mul]
theorem wdN_lt64 {l : List UInt8} (h : l.length ≤ 8) : wdN l < 18446744073709551616 := by
 have h1 := wdN_lt l
 have h2 : 256 ^ l.length ≤ 256 ^ 8 := Nat.pow_le_pow_right (by decide) h
 have h3 : (256 : Nat) ^ 8 = 18446744073709551616 := by decide
 omega
theorem wd_or {l : List UInt8} {x : UInt8} {k : Nat} (hk : l.length = k) (h : k < 8) : bits .or .u64 (wdN l : Int) (IntKind.u64.wrap ((x.toNat : Int) * 2 ^ (8 * k))) = (wdN (l ++ [x]) : Int) := by
 subst hk
 have h1 := wdN_lt l
 have h2 := x.toNat_lt
 have h3 := wdN_lt64 (l := l ++ [x]) (by simp; omega)
 have h4 := wdN_lt64 (l := l) (by omega)
 rw [wdN_app] at h3
 have e : (x.toNat : Int) * 2 ^ (8 * l.length) = ((256 ^ l.length * x.toNat : Nat) : Int) := by
  rw [pow256]
  push_cast
  exact Int.mul_comm _ _
 have e2 : IntKind.u64.wrap ((256 ^ l.length * x.toNat : Nat) : Int) = ((256 ^ l.length * x.toNat : Nat) : Int) := by
  exact wu64 (by omega) (by omega)
 rw [e, e2, u64_or_nat _ _ h4 (by omega), wdN_app]
 congr 1
 rw [Nat.or_comm, nat_join (8 * l.length) _ _ (by rw [pow256]; simp) (by rw [← pow256]; exact h1), Nat.add_comm]
end Go.Am
namespace Go.Proofs.YtfhljcbbgckdiaaGreat
open Go Go.Am Go.RowKit Go.Bas
set_option maxRecDepth 100000
def rot (x : Int) (n : Nat) : Int := bits .or .u64 (IntKind.u64.wrap (x * 2 ^ n)) (x.fdiv (2 ^ (64 - n)))
noncomputable def af_kyRot : AF := afOf Tryz.prog Tryz.f122 []
theorem af_kyRot_ok : AllOk Tryz.prog 122 af_kyRot := .flat Tryz.func122 (by kernel_rfl) (by kernel_rfl) (by kernel_rfl) (by kernel_rfl) (by kernel_rfl)
noncomputable def GEkya : List (Nat × Con) := []
theorem GEkya_ok : GOk Tryz.prog GEkya := .nil
noncomputable def IEkya : List (Nat × AF) := []
theorem IEkya_ok : IOk Tryz.prog IEkya := .nil
noncomputable def CEkya : List (Nat × (List Nat × (S → Option (Bool × Tr)))) := []
theorem CEkya_ok : COk Tryz.prog CEkya := .nil
noncomputable def XEkya : List (Nat × (List Sh × (List V → PT))) := []
theorem XEkya_ok : XOk Tryz.prog XEkya := .nil
noncomputable def Ekya : Env := ⟨Tryz.prog, GEkya, IEkya, CEkya, XEkya, false⟩
theorem Ekya_ok : EnvOk Ekya := ⟨by kernel_rfl, GEkya_ok, IEkya_ok, CEkya_ok, XEkya_ok⟩
theorem kyRot_v (x k : Int) (h : k = 13 ∨ k = 16 ∨ k = 17 ∨ k = 21 ∨ k = 32) : callV Ekya af_kyRot [.int .u64 x, .int .i64 k] = some (.int .u64 (rot x k.toNat)) := by
 rcases h with rfl | rfl | rfl | rfl | rfl <;> kernel_rfl
def cKyRot : List V → Option (V × Bool)
 | [.int .u64 x, .int .i64 k] => some (.int .u64 (rot x k.toNat), decide (k = 13 ∨ k = 16 ∨ k = 17 ∨ k = 21 ∨ k = 32))
 | _ => none
theorem kyRot_con : ∀ vs v, cKyRot vs = some (v, true) → SpecV Tryz.prog 122 vs v := by
 intro vs v h; unfold cKyRot at h; split at h
 ·rename_i x k
  injection h with h; injection h with h hb; subst h
  exact callV_ok Ekya_ok af_kyRot_ok (kyRot_v x k (of_decide_eq_true hb))
 ·cases h
noncomputable def af_kyLeft : AF := afOf Tryz.prog Tryz.f129 []
theorem af_kyLeft_ok : AllOk Tryz.prog 129 af_kyLeft := .flat Tryz.func129 (by kernel_rfl) (by kernel_rfl) (by kernel_rfl) (by kernel_rfl) (by kernel_rfl)
theorem kyLeft_v (x k : Int) (h : k = 13 ∨ k = 16 ∨ k = 17 ∨ k = 21 ∨ k = 32) : callV Ekya af_kyLeft [.int .u64 x, .int .u64 k] = some (.int .u64 (rot x k.toNat)) := by
 rcases h with rfl | rfl | rfl | rfl | rfl <;> kernel_rfl
def cKyLeft : List V → Option (V × Bool)
 | [.int .u64 x, .int .u64 k] => some (.int .u64 (rot x k.toNat), decide (k = 13 ∨ k = 16 ∨ k = 17 ∨ k = 21 ∨ k = 32))
 | _ => none
theorem kyLeft_con : ∀ vs v, cKyLeft vs = some (v, true) → SpecV Tryz.prog 129 vs v := by
 intro vs v h; unfold cKyLeft at h; split at h
 ·rename_i x k
  injection h with h; injection h with h hb; subst h
  exact callV_ok Ekya_ok af_kyLeft_ok (kyLeft_v x k (of_decide_eq_true hb))
 ·cases h
structure W4 where
 (a b c d : Int)
def adU (x y : Int) : Int := IntKind.u64.wrap (x + y)
def xoU (x y : Int) : Int := bits .xor .u64 x y
def kyr (v : W4) : W4 :=
 let a := adU v.a v.b
 let b := xoU (rot v.b 13) a
 let a := rot a 32
 let c := adU v.c v.d
 let d := xoU (rot v.d 16) c
 let a := adU a d
 let d := xoU (rot d 21) a
 let c := adU c b
 let b := xoU (rot b 17) c
 let c := rot c 32
 ⟨a, b, c, d⟩
noncomputable def af_kyRound : AF := afOf Tryz.prog Tryz.f111 []
theorem af_kyRound_ok : AllOk Tryz.prog 111 af_kyRound := .flat Tryz.func111 (by kernel_rfl) (by kernel_rfl) (by kernel_rfl) (by kernel_rfl) (by kernel_rfl)
noncomputable def GEkyb : List (Nat × Con) := [(129, .val [.int .u64, .int .u64] cKyLeft)]
theorem GEkyb_ok : GOk Tryz.prog GEkyb := .cons (enters_of Tryz.func129 (by kernel_rfl) rfl) kyLeft_con <| .nil
noncomputable def IEkyb : List (Nat × AF) := []
theorem IEkyb_ok : IOk Tryz.prog IEkyb := .nil
noncomputable def CEkyb : List (Nat × (List Nat × (S → Option (Bool × Tr)))) := []
theorem CEkyb_ok : COk Tryz.prog CEkyb := .nil
noncomputable def XEkyb : List (Nat × (List Sh × (List V → PT))) := []
theorem XEkyb_ok : XOk Tryz.prog XEkyb := .nil
noncomputable def Ekyb : Env := ⟨Tryz.prog, GEkyb, IEkyb, CEkyb, XEkyb, false⟩
theorem Ekyb_ok : EnvOk Ekyb := ⟨by kernel_rfl, GEkyb_ok, IEkyb_ok, CEkyb_ok, XEkyb_ok⟩
theorem kyRound_v (a b c d : Int) : callV Ekyb af_kyRound [.int .u64 a, .int .u64 b, .int .u64 c, .int .u64 d] = some (.tup [.int .u64 (kyr ⟨a, b, c, d⟩).a, .int .u64 (kyr ⟨a, b, c, d⟩).b, .int .u64 (kyr ⟨a, b, c, d⟩).c, .int .u64 (kyr ⟨a, b, c, d⟩).d]) := by kernel_rfl
def cKyRound : List V → Option (V × Bool)
 | [.int .u64 a, .int .u64 b, .int .u64 c, .int .u64 d] => some (.tup [.int .u64 (kyr ⟨a, b, c, d⟩).a, .int .u64 (kyr ⟨a, b, c, d⟩).b, .int .u64 (kyr ⟨a, b, c, d⟩).c, .int .u64 (kyr ⟨a, b, c, d⟩).d], true)
 | _ => none
theorem kyRound_con : ∀ vs v, cKyRound vs = some (v, true) → SpecV Tryz.prog 111 vs v := by
 intro vs v h; unfold cKyRound at h; split at h
 ·rename_i a b c d
  injection h with h; injection h with h hb; subst h
  exact callV_ok Ekyb_ok af_kyRound_ok (kyRound_v a b c d)
 ·cases h
abbrev shU : Sh := .int .u64
abbrev shS4 : Sh := .arr 4 shU
def s4 (v : W4) : V := .arr shU 4 [.int .u64 v.a, .int .u64 v.b, .int .u64 v.c, .int .u64 v.d]
def w4Of (v : V) : W4 := ⟨toI ((toE v).getD 0 .undef), toI ((toE v).getD 1 .undef), toI ((toE v).getD 2 .undef), toI ((toE v).getD 3 .undef)⟩
structure KdI where
 (v : W4)
 (n i : Int)
def kdS (v : W4) (n i : Int) : S := ⟨[(0, .ref 0 [] 0 shS4), (4, .int .i64 n), (5, .int .i64 i)], [(0, some (.var shS4 (s4 v)))], 1, true, 20⟩
def kdX (v : W4) : S := ⟨[(0, .ref 0 [] 0 shS4)], [(0, some (.var shS4 (s4 v)))], 1, true, 20⟩
def kdN : Nat → W4 → W4
 | 0, v => v
 | n + 1, v => kdN n (kyr v)
def kdGet (s : S) : KdI := ⟨w4Of (bkD s 0), toI (lkD s 4), toI (lkD s 5)⟩
def kdI (x : KdI) : Prop := 0 ≤ x.i ∧ x.i ≤ x.n ∧ x.n ≤ 100
noncomputable def kdG : S → Option (Bool × Tr) := gX kdGet (fun x => kdS x.v x.n x.i) kdI (fun x => .leaf (.exit 0) (kdX (kdN (x.n - x.i).toNat x.v)))
noncomputable def af_kyHalf : AF := afOf Tryz.prog Tryz.f101 []
theorem af_kyHalf_ok : AllOk Tryz.prog 101 af_kyHalf := .flat Tryz.func101 (by kernel_rfl) (by kernel_rfl) (by kernel_rfl) (by kernel_rfl) (by kernel_rfl)
noncomputable def af_kyTurn : AF := afOf Tryz.prog Tryz.f102 []
theorem af_kyTurn_ok : AllOk Tryz.prog 102 af_kyTurn := .flat Tryz.func102 (by kernel_rfl) (by kernel_rfl) (by kernel_rfl) (by kernel_rfl) (by kernel_rfl)
noncomputable def GEkyc : List (Nat × Con) := [(122, .val [.int .u64, .int .i64] cKyRot)]
theorem GEkyc_ok : GOk Tryz.prog GEkyc := .cons (enters_of Tryz.func122 (by kernel_rfl) rfl) kyRot_con <| .nil
noncomputable def IEkyc : List (Nat × AF) := [(101, af_kyHalf), (102, af_kyTurn)]
theorem IEkyc_ok : IOk Tryz.prog IEkyc := .cons af_kyHalf_ok <| .cons af_kyTurn_ok <| .nil
noncomputable def CEkyc : List (Nat × (List Nat × (S → Option (Bool × Tr)))) := []
theorem CEkyc_ok : COk Tryz.prog CEkyc := .nil
noncomputable def XEkyc : List (Nat × (List Sh × (List V → PT))) := []
theorem XEkyc_ok : XOk Tryz.prog XEkyc := .nil
noncomputable def Ekyc : Env := ⟨Tryz.prog, GEkyc, IEkyc, CEkyc, XEkyc, false⟩
theorem Ekyc_ok : EnvOk Ekyc := ⟨by kernel_rfl, GEkyc_ok, IEkyc_ok, CEkyc_ok, XEkyc_ok⟩
noncomputable def af_kyRounds : AF := afOf Tryz.prog Tryz.f77 [.sum [0, 4, 5] [0] kdG]
noncomputable def kdC : AC := (af_kyRounds.ac.sums.headD (.skip, [], [], fun _ => none)).1
theorem kd_b (v : W4) (n i : Int) : aev Ekyc (inlN Ekyc 6) kdC (bodyF (Am.ways [0, 4, 5] [0] []) [0]) (kdS v n i) =
 bif decide (i < n) then some (.normal, kdS (kyr v) n (IntKind.i64.wrap (i + 1))) else some (.exit 0, kdX v) := by kernel_rfl
theorem kd_loop : LoopOk Tryz.prog kdC.erase [0] kdG := by
 refine loopX_ok Ekyc_ok (d := 6) (AC.flat_ok (by kernel_rfl)) (Am.ways [0, 4, 5] [0] []) [0] kdGet _ _ kdI (fun x => (x.n - x.i).toNat) (fun _ => rfl) ?_
 rintro ⟨v, n, i⟩ ⟨h0, h1, hM⟩
 simp only at h0 h1 hM ⊢
 rw [kd_b]
 by_cases hi : i < n
 ·refine .inl ⟨⟨kyr v, n, i + 1⟩, ?_, ⟨by dsimp only; omega, by dsimp only; omega, hM⟩, by dsimp only; omega, leaf_eq ?_⟩
  ·simp (disch := omega) only [tre]
  ·dsimp only
   rw [show (n - i).toNat = (n - (i + 1)).toNat + 1 by omega]
   rfl
 ·refine .inr ⟨.exit 0, kdX v, ?_, nofun, ?_⟩
  ·simp (disch := omega) only [tre]
  ·rw [show (n - i).toNat = 0 by omega]
   exact .leaf
theorem af_kyRounds_ok : AllOk Tryz.prog 77 af_kyRounds := .sums Tryz.func77 (by kernel_rfl) (by kernel_rfl) (by kernel_rfl) (by kernel_rfl) (sums_one (c := kdC) (ts := [0, 4, 5]) (by kernel_rfl) (by kernel_rfl) kd_loop)
structure WrI where
 (l : List UInt8)
 (i : Int)
def wrS (l : List UInt8) (i : Int) : S := ⟨[(0, .bytes l), (3, .int .u64 (wdN (l.take i.toNat))), (6, .int .i64 l.length), (7, .int .i64 i)], [], 0, true, 22⟩
def wrX (l : List UInt8) : S := ⟨[(3, .int .u64 (wdN l))], [], 0, true, 22⟩
def wrGet (s : S) : WrI := ⟨toL (lkD s 0), toI (lkD s 7)⟩
def wrI (x : WrI) : Prop := 0 ≤ x.i ∧ x.i ≤ x.l.length ∧ x.l.length ≤ 8
noncomputable def wrG : S → Option (Bool × Tr) := gX wrGet (fun x => wrS x.l x.i) wrI (fun x => .leaf (.exit 0) (wrX x.l))
noncomputable def af_kyWord : AF := afOf Tryz.prog Tryz.f76 [.sum [0, 3, 6, 7] [] wrG]
noncomputable def wrC : AC := (af_kyWord.ac.sums.headD (.skip, [], [], fun _ => none)).1
theorem wr_b (l : List UInt8) (i : Int) : aev Ekya (inlN Ekya 6) wrC (bodyF (Am.ways [0, 3, 6, 7] [3] []) []) (wrS l i) =
 bif decide (i < (l.length : Int)) then bif andT (andT true (Am.inB i l.length)) (decide (0 ≤ IntKind.i64.wrap (8 * i))) then
 some (.normal, ⟨[(0, .bytes l), (3, .int .u64 (bits .or .u64 (wdN (l.take i.toNat)) (IntKind.u64.wrap (IntKind.u64.wrap (gt l i.toNat) * 2 ^ (min (IntKind.i64.wrap (8 * i)).toNat 64))))), (6, .int .i64 l.length), (7, .int .i64 (IntKind.i64.wrap (i + 1)))], [], 0, true, 22⟩)
 else none else some (.exit 0, ⟨[(3, .int .u64 (wdN (l.take i.toNat)))], [], 0, true, 22⟩) := by kernel_rfl
theorem wr_step {l : List UInt8} {k : Nat} (hk : k < l.length) (hM : l.length ≤ 8) : bits .or .u64 (wdN (l.take k)) (IntKind.u64.wrap (IntKind.u64.wrap (gt l k) * 2 ^ (8 * k))) = (wdN (l.take (k + 1)) : Int) := by
 have e : gt l k = ((l[k]).toNat : Int) := by
  unfold gt
  simp [hk]
 have h1 := (l[k]).toNat_lt
 rw [e, wu64 (x := ((l[k]).toNat : Int)) (by omega) (by omega)]
 have := wd_or (l := l.take k) (x := l[k]) (k := k) (by rw [List.length_take]; omega) (by omega)
 rw [this, List.take_succ_eq_append_getElem hk]
theorem wr_loop : LoopOk Tryz.prog wrC.erase [] wrG := by
 refine loopX_ok Ekya_ok (d := 6) (AC.flat_ok (by kernel_rfl)) (Am.ways [0, 3, 6, 7] [3] []) [] wrGet _ _ wrI (fun x => (x.l.length - x.i).toNat) (fun _ => rfl) ?_
 rintro ⟨l, i⟩ ⟨h0, h1, hM⟩
 simp only at h0 h1 hM ⊢
 rw [wr_b]
 obtain ⟨k, rfl⟩ := Int.eq_ofNat_of_zero_le h0
 have e8 : IntKind.i64.wrap (8 * (k : Int)) = ((8 * k : Nat) : Int) := by rw [w64 (by omega) (by omega)]; push_cast; rfl
 rw [e8]
 simp only [Int.toNat_natCast, Nat.min_eq_left (show 8 * k ≤ 64 by omega)]
 by_cases hi : k < l.length
 ·refine .inl ⟨⟨l, k + 1⟩, ?_, ⟨by dsimp only; omega, by dsimp only; omega, hM⟩, by dsimp only; omega, leaf_eq rfl⟩
  rw [wr_step hi hM]
  simp (disch := omega) only [tre]
  unfold wrS
  rw [show ((k : Int) + 1).toNat = k + 1 by omega]
 ·refine .inr ⟨.exit 0, wrX l, ?_, nofun, .leaf⟩
  rw [List.take_of_length_le (by omega)]
  simp (disch := omega) only [tre]
  rfl
theorem af_kyWord_ok : AllOk Tryz.prog 76 af_kyWord := .sums Tryz.func76 (by kernel_rfl) (by kernel_rfl) (by kernel_rfl) (by kernel_rfl) (sums_one (c := wrC) (ts := [0, 3, 6, 7]) (by kernel_rfl) (by kernel_rfl) wr_loop)
theorem kyWord_t (l : List UInt8) : callV Ekya af_kyWord [.bytes l] = bif okG (wrS l 0 = wrS l 0 ∧ wrI ⟨l, 0⟩) then some (.int .u64 (wdN l)) else none := by kernel_rfl
def cKyWord : List V → Option (V × Bool)
 | [.bytes l] => some (.int .u64 (wdN l), decide (l.length ≤ 8))
 | _ => none
theorem kyWord_con : ∀ vs v, cKyWord vs = some (v, true) → SpecV Tryz.prog 76 vs v := by
 intro vs v h; unfold cKyWord at h; split at h
 ·rename_i l
  injection h with h; injection h with h hb; subst h
  exact callV_ok Ekya_ok af_kyWord_ok ((by rw [kyWord_t, okG_t ⟨rfl, by have := of_decide_eq_true hb; exact ⟨by show (0:Int) ≤ 0; omega, by show (0:Int) ≤ _; omega, this⟩⟩]; rfl))
 ·cases h
def tk (v : W4) (w : Int) : W4 :=
 let u := kdN 2 ⟨v.a, v.b, v.c, xoU v.d w⟩
 ⟨xoU u.a w, u.b, u.c, u.d⟩
def kyBg (a b : Int) : W4 := ⟨xoU a 8317987319222330741, xoU b 7237128888997146477, xoU a 7816392313619706465, xoU b 8387220255154660723⟩
def kyFo (v : W4) : Int := xoU (xoU (xoU v.a v.b) v.c) v.d
def kyEnd (v : W4) : Int := kyFo (kdN 4 ⟨v.a, v.b, xoU v.c 255, v.d⟩)
structure SmI where
 (v : W4)
 (l : List UInt8)
 (g : Int)
def smR : Nat → W4 → List UInt8 → W4 × List UInt8
 | 0, v, l => (v, l)
 | k + 1, v, l => smR k (tk v (wdN (cutL l 0 8))) (cutL l 8 l.length)
def smS (v : W4) (l : List UInt8) (g : Int) : S := ⟨[(1, .bytes l), (5, .ref 0 [] 0 shS4), (6, .int .u64 g)], [(0, some (.var shS4 (s4 v)))], 1, true, 43⟩
def smGet (s : S) : SmI := ⟨w4Of (bkD s 0), toL (lkD s 1), toI (lkD s 6)⟩
def smI (x : SmI) : Prop := x.l.length ≤ 1000
noncomputable def smG : S → Option (Bool × Tr) := gX smGet (fun x => smS x.v x.l x.g) smI (fun x => .leaf (.exit 0) (smS (smR (x.l.length / 8) x.v x.l).1 (smR (x.l.length / 8) x.v x.l).2 x.g))
noncomputable def af_kyBegin : AF := afOf Tryz.prog Tryz.f74 []
theorem af_kyBegin_ok : AllOk Tryz.prog 74 af_kyBegin := .flat Tryz.func74 (by kernel_rfl) (by kernel_rfl) (by kernel_rfl) (by kernel_rfl) (by kernel_rfl)
noncomputable def af_kyTake : AF := afOf Tryz.prog Tryz.f75 []
theorem af_kyTake_ok : AllOk Tryz.prog 75 af_kyTake := .flat Tryz.func75 (by kernel_rfl) (by kernel_rfl) (by kernel_rfl) (by kernel_rfl) (by kernel_rfl)
noncomputable def GEkyd : List (Nat × Con) := [(122, .val [.int .u64, .int .i64] cKyRot), (76, .val [.bytes] cKyWord)]
theorem GEkyd_ok : GOk Tryz.prog GEkyd := .cons (enters_of Tryz.func122 (by kernel_rfl) rfl) kyRot_con <| .cons (enters_of Tryz.func76 (by kernel_rfl) rfl) kyWord_con <| .nil
noncomputable def IEkyd : List (Nat × AF) := [(101, af_kyHalf), (102, af_kyTurn), (77, af_kyRounds), (74, af_kyBegin), (75, af_kyTake)]
theorem IEkyd_ok : IOk Tryz.prog IEkyd := .cons af_kyHalf_ok <| .cons af_kyTurn_ok <| .cons af_kyRounds_ok <| .cons af_kyBegin_ok <| .cons af_kyTake_ok <| .nil
noncomputable def CEkyd : List (Nat × (List Nat × (S → Option (Bool × Tr)))) := []
theorem CEkyd_ok : COk Tryz.prog CEkyd := .nil
noncomputable def XEkyd : List (Nat × (List Sh × (List V → PT))) := []
theorem XEkyd_ok : XOk Tryz.prog XEkyd := .nil
noncomputable def Ekyd : Env := ⟨Tryz.prog, GEkyd, IEkyd, CEkyd, XEkyd, false⟩
theorem Ekyd_ok : EnvOk Ekyd := ⟨by kernel_rfl, GEkyd_ok, IEkyd_ok, CEkyd_ok, XEkyd_ok⟩
noncomputable def af_kySum : AF := afOf Tryz.prog Tryz.f47 [.sum [1, 5, 6] [0] smG]
noncomputable def smC : AC := (af_kySum.ac.sums.headD (.skip, [], [], fun _ => none)).1
def tkA (v : W4) (w : Int) : W4 := ⟨v.a, v.b, v.c, xoU v.d w⟩
noncomputable def kdOk (u : W4) (n : Int) : Bool := okG (kdS u n 0 = kdS u n 0 ∧ kdI ⟨u, n, 0⟩)
theorem kdOk_t {u : W4} {n : Int} (h0 : 0 ≤ n) (h1 : n ≤ 100) : kdOk u n = true := okG_t ⟨rfl, Int.le_refl 0, h0, h1⟩
theorem sm_b (v : W4) (l : List UInt8) (g : Int) : aev Ekyd (inlN Ekyd 6) smC (bodyF (Am.ways [1, 5, 6] [1, 5, 6] []) [0]) (smS v l g) =
 bif decide ((l.length : Int) ≥ 8) then
 bif andT (andT true (Am.inC 8 l.length)) (decide ((cutL l 0 8).length ≤ 8)) then
 bif andT (andT true (Am.inC 8 l.length)) (decide ((cutL l 0 8).length ≤ 8)) && true then
 bif kdOk (tkA v (wdN (cutL l 0 8))) 2 then
 bif andT true (Am.inC 8 l.length) then some (.normal, smS (tk v (wdN (cutL l 0 8))) (cutL l 8 l.length) g) else none
 else none
 else none
 else none
 else some (.exit 0, smS v l g) := by kernel_rfl
theorem sm_loop : LoopOk Tryz.prog smC.erase [0] smG := by
 refine loopX_ok Ekyd_ok (d := 6) (AC.flat_ok (by kernel_rfl)) (Am.ways [1, 5, 6] [1, 5, 6] []) [0] smGet _ _ smI (fun x => x.l.length) (fun _ => rfl) ?_
 rintro ⟨v, l, g⟩ hM
 simp only [smI] at hM ⊢
 rw [sm_b]
 by_cases h8 : 8 ≤ l.length
 ·have hc1 : (cutL l 0 8).length ≤ 8 := by rw [length_cutL]; omega
  have hc2 : (cutL l 8 l.length).length = l.length - 8 := by rw [length_cutL]; omega
  refine .inl ⟨⟨tk v (wdN (cutL l 0 8)), cutL l 8 l.length, g⟩, ?_, by dsimp only; omega, by dsimp only; omega, leaf_eq ?_⟩
  ·rw [kdOk_t (by omega) (by omega)]
   simp (disch := omega) only [tre]
  ·dsimp only
   rw [hc2, show l.length / 8 = (l.length - 8) / 8 + 1 by omega]
   rfl
 ·refine .inr ⟨.exit 0, smS v l g, ?_, nofun, ?_⟩
  ·simp (disch := omega) only [tre]
  ·rw [show l.length / 8 = 0 by omega]
   exact .leaf
theorem af_kySum_ok : AllOk Tryz.prog 47 af_kySum := .sums Tryz.func47 (by kernel_rfl) (by kernel_rfl) (by kernel_rfl) (by kernel_rfl) (sums_one (c := smC) (ts := [1, 5, 6]) (by kernel_rfl) (by kernel_rfl) sm_loop)
def smLg (l : List UInt8) : Int := IntKind.u64.wrap (IntKind.u64.wrap (l.length : Int) * 2 ^ 56)
def smL (l : List UInt8) (v : W4) : W4 × List UInt8 := smR (l.length / 8) v l
def smW (l : List UInt8) (v : W4) : Int := bits .or .u64 (wdN (smL l v).2) (smLg l)
noncomputable def smOk (v : W4) (l : List UInt8) (g : Int) : Bool := okG (smS v l g = smS v l g ∧ smI ⟨v, l, g⟩)
theorem kySum_t (a b : Int) (l : List UInt8) : callV Ekyd af_kySum [.agg [.int .u64 a, .int .u64 b], .bytes l] =
 bif smOk (kyBg a b) l (smLg l) then
 bif andT true (decide ((smL l (kyBg a b)).2.length ≤ 8)) then
 bif andT true (decide ((smL l (kyBg a b)).2.length ≤ 8)) && true then
 bif kdOk (tkA (smL l (kyBg a b)).1 (smW l (kyBg a b))) 2 then
 bif kdOk ⟨(tk (smL l (kyBg a b)).1 (smW l (kyBg a b))).a, (tk (smL l (kyBg a b)).1 (smW l (kyBg a b))).b, xoU (tk (smL l (kyBg a b)).1 (smW l (kyBg a b))).c 255, (tk (smL l (kyBg a b)).1 (smW l (kyBg a b))).d⟩ 4 then
 some (.int .u64 (kyEnd (tk (smL l (kyBg a b)).1 (smW l (kyBg a b)))))
 else none
 else none
 else none
 else none
 else none := by kernel_rfl
theorem smR_len : ∀ (k : Nat) (v : W4) (l : List UInt8), (smR k v l).2.length = l.length - 8 * k
 | 0, v, l => by simp [smR]
 | k + 1, v, l => by
  rw [smR, smR_len k, length_cutL]
  omega
def kySm (a b : Int) (l : List UInt8) : Int := kyEnd (tk (smL l (kyBg a b)).1 (smW l (kyBg a b)))
theorem kySum_v (a b : Int) (l : List UInt8) (h : l.length ≤ 1000) : callV Ekyd af_kySum [.agg [.int .u64 a, .int .u64 b], .bytes l] = some (.int .u64 (kySm a b l)) := by
 have e : (smL l (kyBg a b)).2.length ≤ 8 := by unfold smL; rw [smR_len]; omega
 rw [kySum_t, kdOk_t (by omega) (by omega), kdOk_t (by omega) (by omega), show smOk (kyBg a b) l (smLg l) = true from okG_t ⟨rfl, h⟩]
 simp (disch := omega) only [tre]
 rfl
def cKySum : List V → Option (V × Bool)
 | [.agg [.int .u64 a, .int .u64 b], .bytes l] => some (.int .u64 (kySm a b l), decide (l.length ≤ 1000))
 | _ => none
theorem kySum_con : ∀ vs v, cKySum vs = some (v, true) → SpecV Tryz.prog 47 vs v := by
 intro vs v h; unfold cKySum at h; split at h
 ·rename_i a b l
  injection h with h; injection h with h hb; subst h
  exact callV_ok Ekyd_ok af_kySum_ok (kySum_v a b l (of_decide_eq_true hb))
 ·cases h
def wR : List UInt8 → Int
 | [] => 0
 | x :: r => IntKind.u64.wrap (IntKind.u64.wrap (wR r * 256) + IntKind.u64.wrap (x.toNat : Int))
theorem wR_eq : ∀ (l : List UInt8), l.length ≤ 8 → wR l = (wdN l : Int)
 | [], _ => rfl
 | x :: r, h => by
  have h1 := wdN_lt r
  have h2 := x.toNat_lt
  have h3 : 256 ^ r.length ≤ 256 ^ 7 := Nat.pow_le_pow_right (by decide) (by simp at h; omega)
  have h4 : (256 : Nat) ^ 7 = 72057594037927936 := by decide
  rw [wR, wR_eq r (by simp at h; omega), wdN, wu64 (x := (wdN r : Int) * 256) (by omega) (by omega), wu64 (x := (x.toNat : Int)) (by omega) (by omega), wu64 (by omega) (by omega)]
  push_cast
  omega
def wdsR (l : List UInt8) : List V := [.int .u64 (wR (l.take 8)), .int .u64 (wR ((l.drop 8).take 8)), .int .u64 (wR ((l.drop 16).take 8)), .int .u64 (wR ((l.drop 24).take 8)), .int .u64 (IntKind.u64.wrap (wR (l.drop 32) + IntKind.u64.wrap (36 * 2 ^ 56)))]
noncomputable def af_kyWords : AF := afOf Tryz.prog Tryz.f110 [.unr 9, .unr 6]
theorem af_kyWords_ok : AllOk Tryz.prog 110 af_kyWords := .flat Tryz.func110 (by kernel_rfl) (by kernel_rfl) (by kernel_rfl) (by kernel_rfl) (by kernel_rfl)
noncomputable def GEkye : List (Nat × Con) := []
theorem GEkye_ok : GOk Tryz.prog GEkye := .nil
noncomputable def IEkye : List (Nat × AF) := []
theorem IEkye_ok : IOk Tryz.prog IEkye := .nil
noncomputable def CEkye : List (Nat × (List Nat × (S → Option (Bool × Tr)))) := []
theorem CEkye_ok : COk Tryz.prog CEkye := .nil
noncomputable def XEkye : List (Nat × (List Sh × (List V → PT))) := []
theorem XEkye_ok : XOk Tryz.prog XEkye := .nil
noncomputable def Ekye : Env := ⟨Tryz.prog, GEkye, IEkye, CEkye, XEkye, false⟩
theorem Ekye_ok : EnvOk Ekye := ⟨by kernel_rfl, GEkye_ok, IEkye_ok, CEkye_ok, XEkye_ok⟩
theorem cons4 {l : List UInt8} {n : Nat} (h : l.length = n + 4) : ∃ a b c d r, l = a :: b :: c :: d :: r ∧ r.length = n := by
 match l, h with
 | a :: b :: c :: d :: r, h => exact ⟨a, b, c, d, r, rfl, by simpa using h⟩
theorem kyWords_v (l : List UInt8) (h : l.length = 36) : callV Ekye af_kyWords [.bytes l] = some (.ownv 77 (.rows (.int .u64) (wdsR l))) := by
 obtain ⟨a0, a1, a2, a3, l0, rfl, h0⟩ := cons4 (n := 32) h
 obtain ⟨b0, b1, b2, b3, l1, rfl, h1⟩ := cons4 (n := 28) h0
 obtain ⟨c0, c1, c2, c3, l2, rfl, h2⟩ := cons4 (n := 24) h1
 obtain ⟨d0, d1, d2, d3, l3, rfl, h3⟩ := cons4 (n := 20) h2
 obtain ⟨e0, e1, e2, e3, l4, rfl, h4⟩ := cons4 (n := 16) h3
 obtain ⟨f0, f1, f2, f3, l5, rfl, h5⟩ := cons4 (n := 12) h4
 obtain ⟨g0, g1, g2, g3, l6, rfl, h6⟩ := cons4 (n := 8) h5
 obtain ⟨h0, h1, h2, h3, l7, rfl, h7⟩ := cons4 (n := 4) h6
 obtain ⟨k0, k1, k2, k3, l8, rfl, h8⟩ := cons4 (n := 0) h7
 obtain rfl := List.eq_nil_of_length_eq_zero h8
 kernel_rfl
def cKyWords : List V → Option (V × Bool)
 | [.bytes l] => some (.ownv 77 (.rows (.int .u64) (wdsR l)), decide (l.length = 36))
 | _ => none
theorem kyWords_con : ∀ vs v, cKyWords vs = some (v, true) → SpecV Tryz.prog 110 vs v := by
 intro vs v h; unfold cKyWords at h; split at h
 ·rename_i l
  injection h with h; injection h with h hb; subst h
  exact callV_ok Ekye_ok af_kyWords_ok (kyWords_v l (of_decide_eq_true hb))
 ·cases h
structure KrsI where
 (v : W4)
 (ws : List V)
 (i : Int)
def krsS (v : W4) (ws : List V) (i : Int) : S := ⟨[(5, .int .u64 v.a), (6, .int .u64 v.b), (7, .int .u64 v.c), (8, .int .u64 v.d), (9, .own 0 ws.length shU), (10, .int .i64 i)], [(0, some (.row 77 shU (.rows shU ws)))], 1, true, 87⟩
def krsX (v : W4) : S := ⟨[(5, .int .u64 v.a), (6, .int .u64 v.b), (7, .int .u64 v.c), (8, .int .u64 v.d)], [], 0, true, 87⟩
def krsF (v : W4) (ws : List V) : W4 := ws.foldl (fun v w => tk v (toI w)) v
def krsGet (s : S) : KrsI := ⟨⟨toI (lkD s 5), toI (lkD s 6), toI (lkD s 7), toI (lkD s 8)⟩, toR (bkD s 0), toI (lkD s 10)⟩
def krsI (x : KrsI) : Prop := 0 ≤ x.i ∧ x.i ≤ x.ws.length ∧ x.ws.length ≤ 1000
noncomputable def krsG : S → Option (Bool × Tr) := gX krsGet (fun x => krsS x.v x.ws x.i) krsI (fun x => .leaf (.exit 0) (krsX (krsF x.v (x.ws.drop x.i.toNat))))
noncomputable def af_rKySum : AF := afOf Tryz.prog Tryz.f87 [.sum [5, 6, 7, 8, 9, 10] [] krsG, .unr 5]
noncomputable def GEkyf : List (Nat × Con) := [(110, .val [.bytes] cKyWords), (111, .val [.int .u64, .int .u64, .int .u64, .int .u64] cKyRound)]
theorem GEkyf_ok : GOk Tryz.prog GEkyf := .cons (enters_of Tryz.func110 (by kernel_rfl) rfl) kyWords_con <| .cons (enters_of Tryz.func111 (by kernel_rfl) rfl) kyRound_con <| .nil
noncomputable def IEkyf : List (Nat × AF) := []
theorem IEkyf_ok : IOk Tryz.prog IEkyf := .nil
noncomputable def CEkyf : List (Nat × (List Nat × (S → Option (Bool × Tr)))) := []
theorem CEkyf_ok : COk Tryz.prog CEkyf := .nil
noncomputable def XEkyf : List (Nat × (List Sh × (List V → PT))) := []
theorem XEkyf_ok : XOk Tryz.prog XEkyf := .nil
noncomputable def Ekyf : Env := ⟨Tryz.prog, GEkyf, IEkyf, CEkyf, XEkyf, false⟩
theorem Ekyf_ok : EnvOk Ekyf := ⟨by kernel_rfl, GEkyf_ok, IEkyf_ok, CEkyf_ok, XEkyf_ok⟩
noncomputable def krsC : AC := (af_rKySum.ac.sums.headD (.skip, [], [], fun _ => none)).1
theorem krs_b (v : W4) (ws : List V) (i : Int) : aev Ekyf (inlN Ekyf 6) krsC (bodyF (Am.ways [5, 6, 7, 8, 9, 10] [5, 6, 7, 8] []) []) (krsS v ws i) =
 bif decide (i < (ws.length : Int)) then bif andT true (Am.inB i ws.length) then bif andT true (Am.inB i ws.length) then
 some (.normal, krsS (tk v (toI (ws.getD i.toNat .undef))) ws (IntKind.i64.wrap (i + 1))) else none else none
 else some (.exit 0, krsX v) := by kernel_rfl
theorem krs_loop : LoopOk Tryz.prog krsC.erase [] krsG := by
 refine loopX_ok Ekyf_ok (d := 6) (AC.flat_ok (by kernel_rfl)) (Am.ways [5, 6, 7, 8, 9, 10] [5, 6, 7, 8] []) [] krsGet _ _ krsI (fun x => (x.ws.length - x.i).toNat) (fun _ => rfl) ?_
 rintro ⟨v, ws, i⟩ ⟨h0, h1, hM⟩
 simp only at h0 h1 hM ⊢
 rw [krs_b]
 obtain ⟨k, rfl⟩ := Int.eq_ofNat_of_zero_le h0
 simp only [Int.toNat_natCast]
 by_cases hi : k < ws.length
 ·refine .inl ⟨⟨tk v (toI (ws.getD k .undef)), ws, k + 1⟩, ?_, ⟨by dsimp only; omega, by dsimp only; omega, hM⟩, by dsimp only; omega, leaf_eq ?_⟩
  ·simp (disch := omega) only [tre]
  ·dsimp only
   rw [show ((k : Int) + 1).toNat = k + 1 by omega, drop_next (d := V.undef) hi]
   rfl
 ·refine .inr ⟨.exit 0, krsX v, ?_, nofun, ?_⟩
  ·simp (disch := omega) only [tre]
  ·rw [List.drop_of_length_le (by omega)]
   exact .leaf
theorem af_rKySum_ok : AllOk Tryz.prog 87 af_rKySum := .sums Tryz.func87 (by kernel_rfl) (by kernel_rfl) (by kernel_rfl) (by kernel_rfl) (sums_one (c := krsC) (ts := [5, 6, 7, 8, 9, 10]) (by kernel_rfl) (by kernel_rfl) krs_loop)
def rKySm (a b : Int) (l : List UInt8) : Int := kyEnd (krsF (kyBg a b) (wdsR l))
theorem rKySum_t (a b : Int) (l : List UInt8) : callV Ekyf af_rKySum [.agg [.int .u64 a, .int .u64 b], .bytes l] =
 bif andT true (decide (l.length = 36)) then
 bif okG (krsS (kyBg a b) (wdsR l) 0 = krsS (kyBg a b) (wdsR l) 0 ∧ krsI ⟨kyBg a b, wdsR l, 0⟩) then some (.int .u64 (rKySm a b l)) else none else none := by kernel_rfl
theorem chunks {l : List UInt8} (h : l.length = 36) (v : W4) : smR 4 v l = (tk (tk (tk (tk v (wdN (l.take 8))) (wdN ((l.drop 8).take 8))) (wdN ((l.drop 16).take 8))) (wdN ((l.drop 24).take 8)), l.drop 32) := by
 simp only [smR, cutL_all, cutL_zero, List.drop_drop]
theorem kySm_eq (a b : Int) {l : List UInt8} (h : l.length = 36) : rKySm a b l = kySm a b l := by
 have e1 : ∀ (k n : Nat), n ≤ 8 → wR ((l.drop k).take n) = (wdN ((l.drop k).take n) : Int) := fun k n hn => wR_eq _ (by rw [List.length_take]; omega)
 have e2 : wR (l.drop 32) = (wdN (l.drop 32) : Int) := wR_eq _ (by rw [List.length_drop]; omega)
 have e3 : wR (l.take 8) = (wdN (l.take 8) : Int) := wR_eq _ (by rw [List.length_take]; omega)
 unfold rKySm kySm smW smL krsF wdsR
 rw [h, chunks h]
 simp only [List.foldl_cons, List.foldl_nil, toI, e1 8 8 (by omega), e1 16 8 (by omega), e1 24 8 (by omega), e2, e3]
 have e4 : IntKind.u64.wrap ((wdN (l.drop 32) : Int) + IntKind.u64.wrap (36 * 2 ^ 56)) = bits .or .u64 (wdN (l.drop 32)) (smLg l) := by
  have h1 := wdN_lt (l.drop 32)
  rw [List.length_drop, h] at h1
  have h3 : (256 : Nat) ^ (36 - 32) = 4294967296 := by decide
  rw [h3] at h1
  have hl : smLg l = ((2594073385365405696 : Nat) : Int) := by
   unfold smLg
   rw [h]
   rfl
  rw [hl, show IntKind.u64.wrap (36 * 2 ^ 56) = ((2594073385365405696 : Nat) : Int) by rfl, u64_or_nat _ _ (by omega) (by decide), wu64 (by omega) (by omega)]
  rw [Nat.or_comm, nat_join 56 _ _ (by decide) (by omega), Nat.add_comm]
  exact (Int.natCast_add _ _).symm
 rw [e4]
def cRKySum : List V → Option (V × Bool)
 | [.agg [.int .u64 a, .int .u64 b], .bytes l] => some (.int .u64 (kySm a b l), decide (l.length = 36))
 | _ => none
theorem rKySum_con : ∀ vs v, cRKySum vs = some (v, true) → SpecV Tryz.prog 87 vs v := by
 intro vs v h; unfold cRKySum at h; split at h
 ·rename_i a b l
  injection h with h; injection h with h hb; subst h
  exact callV_ok Ekyf_ok af_rKySum_ok ((by have h := of_decide_eq_true hb; rw [rKySum_t, okG_t ⟨rfl, by show (0:Int) ≤ 0; omega, by show (0:Int) ≤ _; simp [wdsR], by show (wdsR l).length ≤ 1000; simp [wdsR]⟩, h, kySm_eq _ _ h]; rfl))
 ·cases h
noncomputable def af_kyFlow : AF := afOf Tryz.prog Tryz.f23 []
theorem af_kyFlow_ok : AllOk Tryz.prog 23 af_kyFlow := .flat Tryz.func23 (by kernel_rfl) (by kernel_rfl) (by kernel_rfl) (by kernel_rfl) (by kernel_rfl)
noncomputable def af_rKyFlow : AF := afOf Tryz.prog Tryz.f55 []
theorem af_rKyFlow_ok : AllOk Tryz.prog 55 af_rKyFlow := .flat Tryz.func55 (by kernel_rfl) (by kernel_rfl) (by kernel_rfl) (by kernel_rfl) (by kernel_rfl)
noncomputable def GEkyg : List (Nat × Con) := [(48, .val [.agg [.barr 16, .int .i64, .barr 16, .int .i64]] cFlBytes), (88, .val [.agg [.barr 16, .int .i64, .barr 16, .int .i64]] cRFlBytes), (47, .val [.agg [.int .u64, .int .u64], .bytes] cKySum), (87, .val [.agg [.int .u64, .int .u64], .bytes] cRKySum)]
theorem GEkyg_ok : GOk Tryz.prog GEkyg := .cons (enters_of Tryz.func48 (by kernel_rfl) rfl) flBytes_con <| .cons (enters_of Tryz.func88 (by kernel_rfl) rfl) rFlBytes_con <| .cons (enters_of Tryz.func47 (by kernel_rfl) rfl) kySum_con <| .cons (enters_of Tryz.func87 (by kernel_rfl) rfl) rKySum_con <| .nil
noncomputable def IEkyg : List (Nat × AF) := []
theorem IEkyg_ok : IOk Tryz.prog IEkyg := .nil
noncomputable def CEkyg : List (Nat × (List Nat × (S → Option (Bool × Tr)))) := []
theorem CEkyg_ok : COk Tryz.prog CEkyg := .nil
noncomputable def XEkyg : List (Nat × (List Sh × (List V → PT))) := []
theorem XEkyg_ok : XOk Tryz.prog XEkyg := .nil
noncomputable def Ekyg : Env := ⟨Tryz.prog, GEkyg, IEkyg, CEkyg, XEkyg, false⟩
theorem Ekyg_ok : EnvOk Ekyg := ⟨by kernel_rfl, GEkyg_ok, IEkyg_ok, CEkyg_ok, XEkyg_ok⟩
def kyFl (a b : Int) (s : List UInt8) (sp : Int) (d : List UInt8) (dp : Int) : Int := kySm a b (flB s sp d dp)
theorem flB_len {s d : List UInt8} (hs : s.length = 16) (hd : d.length = 16) (sp dp : Int) : (flB s sp d dp).length = 36 := by
 unfold flB
 simp [hs, hd, two]
theorem kyFlow_t (a b sp dp : Int) (s d : List UInt8) : callV Ekyg af_kyFlow [.agg [.int .u64 a, .int .u64 b], .agg [.barr 16 s, .int .i64 sp, .barr 16 d, .int .i64 dp]] = bif andT true (decide ((flB s sp d dp).length ≤ 1000)) && true then some (.int .u64 (kyFl a b s sp d dp)) else none := by kernel_rfl
theorem rKyFlow_t (a b sp dp : Int) (s d : List UInt8) : callV Ekyg af_rKyFlow [.agg [.int .u64 a, .int .u64 b], .agg [.barr 16 s, .int .i64 sp, .barr 16 d, .int .i64 dp]] = bif andT (andT true (decide (s.length = 16 ∧ d.length = 16))) (decide ((flB s sp d dp).length = 36)) && true then some (.int .u64 (kyFl a b s sp d dp)) else none := by kernel_rfl
def cKyFlow : List V → Option (V × Bool)
 | [.agg [.int .u64 a, .int .u64 b], .agg [.barr 16 s, .int .i64 sp, .barr 16 d, .int .i64 dp]] => some (.int .u64 (kyFl a b s sp d dp), decide (s.length = 16 ∧ d.length = 16))
 | _ => none
theorem kyFlow_con : ∀ vs v, cKyFlow vs = some (v, true) → SpecV Tryz.prog 23 vs v := by
 intro vs v h; unfold cKyFlow at h; split at h
 ·rename_i a b s sp d dp
  injection h with h; injection h with h hb; subst h
  exact callV_ok Ekyg_ok af_kyFlow_ok ((by obtain ⟨h1, h2⟩ := of_decide_eq_true hb; rw [kyFlow_t, flB_len h1 h2]; rfl))
 ·cases h
theorem rKyFlow_con : ∀ vs v, cKyFlow vs = some (v, true) → SpecV Tryz.prog 55 vs v := by
 intro vs v h; unfold cKyFlow at h; split at h
 ·rename_i a b s sp d dp
  injection h with h; injection h with h hb; subst h
  exact callV_ok Ekyg_ok af_rKyFlow_ok ((by obtain ⟨h1, h2⟩ := of_decide_eq_true hb; rw [rKyFlow_t, flB_len h1 h2, h1, h2]; rfl))
 ·cases h
noncomputable def kyS (a b : Int) (s : List UInt8) (sp : Int) (d : List UInt8) (dp : Int) : Int := Classical.choose (⟨kyFl a b s sp d dp, rfl⟩ : ∃ x, x = kyFl a b s sp d dp)
theorem kyS_eq (a b : Int) (s : List UInt8) (sp : Int) (d : List UInt8) (dp : Int) : kyS a b s sp d dp = kyFl a b s sp d dp := Classical.choose_spec (⟨kyFl a b s sp d dp, rfl⟩ : ∃ x, x = kyFl a b s sp d dp)
noncomputable def cKyFlowS : List V → Option (V × Bool)
 | [.agg [.int .u64 a, .int .u64 b], .agg [.barr 16 s, .int .i64 sp, .barr 16 d, .int .i64 dp]] => some (.int .u64 (kyS a b s sp d dp), decide (s.length = 16 ∧ d.length = 16))
 | _ => none
theorem cKyFlowS_eq (vs : List V) : cKyFlowS vs = cKyFlow vs := by
 unfold cKyFlowS cKyFlow
 split
 ·rw [kyS_eq]
 ·rfl
theorem kyFlowS_con : ∀ vs v, cKyFlowS vs = some (v, true) → SpecV Tryz.prog 23 vs v := fun vs v h => kyFlow_con vs v (by rw [← cKyFlowS_eq]; exact h)
theorem rKyFlowS_con : ∀ vs v, cKyFlowS vs = some (v, true) → SpecV Tryz.prog 55 vs v := fun vs v h => rKyFlow_con vs v (by rw [← cKyFlowS_eq]; exact h)
end Go.Proofs.YtfhljcbbgckdiaaGreat