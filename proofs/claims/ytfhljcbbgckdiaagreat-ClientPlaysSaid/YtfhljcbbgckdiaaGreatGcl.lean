/- Part Gcl of the proof: laws used by the law of this claim. -/
import Derived.Test.YtfhljcbbgckdiaaGreatGky
import Derived.Test.YtfhljcbbgckdiaaGreatGv
import Derived.Test.YtfhljcbbgckdiaaGreatGz
set_option linter.all false
namespace Go.Proofs.YtfhljcbbgckdiaaGreat
open Go Go.Am Go.RowKit Go.Bas
set_option maxRecDepth 100000
def mx0 (f : Int) : Int := if (0 : Int) > f then 0 else f
def mnS (n : Int) : Int := if (100 : Int) < mx0 n then 100 else mx0 n
theorem mx0_lo (f : Int) : 0 ≤ mx0 f := by unfold mx0; split <;> omega
theorem mnS_lo (n : Int) : 0 ≤ mnS n := by have := mx0_lo n; unfold mnS; split <;> omega
theorem mnS_hi (n : Int) : mnS n ≤ 100 := by unfold mnS; split <;> omega
def stU (f i : Int) : UInt8 := u8 ((31 * (f + i) + 7) % 256)
def stL (f : Int) : Nat → List UInt8
 | 0 => []
 | n + 1 => stL f n ++ [stU f n]
theorem stL_len (f : Int) : ∀ n, (stL f n).length = n
 | 0 => rfl
 | n + 1 => by rw [stL, List.length_append, stL_len f n]; rfl
def stE (f i : Int) : Int := IntKind.u8.wrap (IntKind.u8.wrap (IntKind.u8.wrap (IntKind.i64.wrap (f + i)) * 31) + 7)
theorem stE_eq (f i : Int) : u8 (stE f i) = stU f i := by
 unfold stE stU
 have h : ∀ y : Int, IntKind.u8.wrap y = y % 256 := fun y => by simp [IntKind.wrap, IntKind.signed, IntKind.bits]
 rw [h, h, h, IntKind.wrap_i64]
 congr 1
 omega
def rstE (f i : Int) : Int := IntKind.u8.wrap ((IntKind.i64.wrap (IntKind.i64.wrap (31 * (IntKind.i64.wrap (f + i)).tmod 256) + 7)).tmod 256)
theorem tmod_cases (y : Int) : (0 ≤ y ∧ y.tmod 256 = y % 256) ∨ (y < 0 ∧ y.tmod 256 = -((-y) % 256)) := by
 rcases Int.lt_or_le y 0 with h | h
 ·refine .inr ⟨h, ?_⟩
  have := Int.neg_tmod (-y) 256
  rw [Int.neg_neg] at this
  rw [this, tmd (by omega)]
 ·exact .inl ⟨h, tmd h⟩
theorem rstE_eq (f i : Int) : u8 (rstE f i) = stU f i := by
 unfold rstE stU
 have h : ∀ y : Int, IntKind.u8.wrap y = y % 256 := fun y => by simp [IntKind.wrap, IntKind.signed, IntKind.bits]
 have h1 : ∀ y : Int, y.tmod 256 % 256 = y % 256 := fun y => by rcases tmod_cases y with ⟨h, e⟩ | ⟨h, e⟩ <;> rw [e] <;> omega
 have h2 : ∀ y : Int, -256 < y.tmod 256 ∧ y.tmod 256 < 256 := fun y => by rcases tmod_cases y with ⟨h, e⟩ | ⟨h, e⟩ <;> rw [e] <;> omega
 have h3 := h2 (IntKind.i64.wrap (f + i))
 rw [h, h1, w64 (x := 31 * (IntKind.i64.wrap (f + i)).tmod 256) (by omega) (by omega), w64 (by omega) (by omega)]
 have h4 := h1 (IntKind.i64.wrap (f + i))
 rw [IntKind.wrap_i64] at *
 congr 1
 omega
structure StI where
 (f : Int)
 (n : Nat)
 (l : List UInt8)
 (i : Int)
def stS (f : Int) (n : Nat) (l : List UInt8) (i : Int) : S := ⟨[(0, .int .i64 f), (5, .own 0 n (.int .u8)), (15, .int .i64 n), (16, .int .i64 i)], [(0, some (.row 5 (.int .u8) (.bytes l)))], 1, true, 30⟩
def stX (n : Nat) (l : List UInt8) : S := ⟨[(5, .own 0 n (.int .u8))], [(0, some (.row 5 (.int .u8) (.bytes l)))], 1, true, 30⟩
def stGet (s : S) : StI := ⟨toI (lkD s 0), (toI (lkD s 15)).toNat, toL (bkD s 0), toI (lkD s 16)⟩
def stI (x : StI) : Prop := 0 ≤ x.i ∧ x.i ≤ x.n ∧ x.n ≤ 100 ∧ x.l = stL x.f x.i.toNat ++ List.replicate (x.n - x.i.toNat) 0
noncomputable def stG : S → Option (Bool × Tr) := gX stGet (fun x => stS x.f x.n x.l x.i) stI (fun x => .leaf (.exit 0) (stX x.n (stL x.f x.n)))
noncomputable def af_clStream : AF := afOf Tryz.prog Tryz.f20 [.sum [0, 5, 15, 16] [] stG]
noncomputable def GEcla : List (Nat × Con) := []
theorem GEcla_ok : GOk Tryz.prog GEcla := .nil
noncomputable def IEcla : List (Nat × AF) := []
theorem IEcla_ok : IOk Tryz.prog IEcla := .nil
noncomputable def CEcla : List (Nat × (List Nat × (S → Option (Bool × Tr)))) := []
theorem CEcla_ok : COk Tryz.prog CEcla := .nil
noncomputable def XEcla : List (Nat × (List Sh × (List V → PT))) := []
theorem XEcla_ok : XOk Tryz.prog XEcla := .nil
noncomputable def Ecla : Env := ⟨Tryz.prog, GEcla, IEcla, CEcla, XEcla, false⟩
theorem Ecla_ok : EnvOk Ecla := ⟨by kernel_rfl, GEcla_ok, IEcla_ok, CEcla_ok, XEcla_ok⟩
noncomputable def stC : AC := (af_clStream.ac.sums.headD (.skip, [], [], fun _ => none)).1
theorem st_b (f : Int) (n : Nat) (l : List UInt8) (i : Int) : aev Ecla (inlN Ecla 6) stC (bodyF (Am.ways [0, 5, 15, 16] [5] []) []) (stS f n l i) =
 bif decide (i < (n : Int)) then bif andT true (Am.inB i n) then some (.normal, stS f n (l.set i.toNat (u8 (stE f i))) (IntKind.i64.wrap (i + 1))) else none
 else some (.exit 0, stX n l) := by kernel_rfl
theorem st_set {f : Int} {n k : Nat} (hk : k < n) : (stL f k ++ List.replicate (n - k) 0).set k (stU f k) = stL f (k + 1) ++ List.replicate (n - (k + 1)) 0 := by
 rw [List.set_append_right _ _ (by rw [stL_len]; omega), stL_len, Nat.sub_self, show n - k = n - (k + 1) + 1 by omega, List.replicate_succ, List.set_cons_zero, stL, List.append_assoc]
 rfl
theorem st_loop : LoopOk Tryz.prog stC.erase [] stG := by
 refine loopX_ok Ecla_ok (d := 6) (AC.flat_ok (by kernel_rfl)) (Am.ways [0, 5, 15, 16] [5] []) [] stGet _ _ stI (fun x => (x.n - x.i).toNat) (fun _ => rfl) ?_
 rintro ⟨f, n, l, i⟩ ⟨h0, h1, hM, hl⟩
 simp only at h0 h1 hM hl ⊢
 rw [st_b]
 obtain ⟨k, rfl⟩ := Int.eq_ofNat_of_zero_le h0
 simp only [Int.toNat_natCast] at hl ⊢
 by_cases hi : k < n
 ·refine .inl ⟨⟨f, n, l.set k (stU f k), k + 1⟩, ?_, ⟨by dsimp only; omega, by dsimp only; omega, hM, ?_⟩, by dsimp only; omega, leaf_eq rfl⟩
  ·rw [stE_eq]
   simp (disch := omega) only [tre]
  ·dsimp only
   rw [hl, show ((k : Int) + 1).toNat = k + 1 by omega, st_set hi]
 ·have e : k = n := by omega
  subst e
  refine .inr ⟨.exit 0, stX k l, ?_, nofun, ?_⟩
  ·simp (disch := omega) only [tre]
  ·rw [hl, Nat.sub_self, List.replicate_zero, List.append_nil]
   exact .leaf
theorem af_clStream_ok : AllOk Tryz.prog 20 af_clStream := .sums Tryz.func20 (by kernel_rfl) (by kernel_rfl) (by kernel_rfl) (by kernel_rfl) (sums_one (c := stC) (ts := [0, 5, 15, 16]) (by kernel_rfl) (by kernel_rfl) st_loop)
theorem clStream_t (f n : Int) : callV Ecla af_clStream [.int .i64 f, .int .i64 n] =
 bif andT true ((mnS n == mnS n) && Am.inC (mnS n) 9223372036854775807 && Nat.ble (1 * (mnS n).toNat) 281474976710656) then
 bif okG (stS (mx0 f) (mnS n).toNat (List.replicate (mnS n).toNat 0) 0 = stS (mx0 f) (mnS n).toNat (List.replicate (mnS n).toNat 0) 0 ∧ stI ⟨mx0 f, (mnS n).toNat, List.replicate (mnS n).toNat 0, 0⟩) then
 some (.ownv 5 (.bytes (stL (mx0 f) (mnS n).toNat))) else none else none := by kernel_rfl
theorem clStream_v (f n : Int) : callV Ecla af_clStream [.int .i64 f, .int .i64 n] = some (.ownv 5 (.bytes (stL (mx0 f) (mnS n).toNat))) := by
 have h0 := mnS_lo n
 have h1 := mnS_hi n
 rw [clStream_t, okG_t ⟨rfl, Int.le_refl 0, by show (0 : Int) ≤ ((mnS n).toNat : Int); omega, by show (mnS n).toNat ≤ 100; omega, rfl⟩]
 simp (disch := omega) only [tre]
def cStream : List V → Option (V × Bool)
 | [.int .i64 f, .int .i64 n] => some (.ownv 5 (.bytes (stL (mx0 f) (mnS n).toNat)), true)
 | _ => none
theorem clStream_con : ∀ vs v, cStream vs = some (v, true) → SpecV Tryz.prog 20 vs v := by
 intro vs v h; unfold cStream at h; split at h
 ·rename_i f n
  injection h with h; injection h with h hb; subst h
  exact callV_ok Ecla_ok af_clStream_ok (clStream_v f n)
 ·cases h
def rstS (f n : Int) (l : List UInt8) (i : Int) : S :=
 match l with
 | [] => ⟨[(0, .int .i64 f), (1, .int .i64 n), (5, .nils), (6, .int .i64 i)], [], 0, true, 29⟩
 | x :: r => ⟨[(0, .int .i64 f), (1, .int .i64 n), (5, .own 0 (x :: r).length (.int .u8)), (6, .int .i64 i)], [(0, some (.row 5 (.int .u8) (.bytes (x :: r))))], 1, true, 29⟩
def rstX (l : List UInt8) : S :=
 match l with
 | [] => ⟨[(5, .nils)], [], 0, true, 29⟩
 | x :: r => ⟨[(5, .own 0 (x :: r).length (.int .u8))], [(0, some (.row 5 (.int .u8) (.bytes (x :: r))))], 1, true, 29⟩
def rstY (l : List UInt8) : S := ⟨[(5, .own 0 l.length (.int .u8))], [(0, some (.row 5 (.int .u8) (.bytes l)))], 1, true, 29⟩
structure RstI where
 (f n : Int)
 (l : List UInt8)
 (i : Int)
def rstGet (s : S) : RstI := ⟨toI (lkD s 0), toI (lkD s 1), toL (bkD s 0), toI (lkD s 6)⟩
def rstI (x : RstI) : Prop := 0 ≤ x.i ∧ x.i ≤ mnS x.n ∧ x.l = stL (mx0 x.f) x.i.toNat
noncomputable def rstG : S → Option (Bool × Tr) := gX rstGet (fun x => rstS x.f x.n x.l x.i) rstI (fun x => .br (mnS x.n == 0) (.leaf (.exit 0) (rstX [])) (.leaf (.exit 0) (rstY (stL (mx0 x.f) (mnS x.n).toNat))))
noncomputable def af_rClStream : AF := afOf Tryz.prog Tryz.f21 [.sum [0, 1, 5, 6] [] rstG]
noncomputable def rstC : AC := (af_rClStream.ac.sums.headD (.skip, [], [], fun _ => none)).1
theorem rst_b0 (f n i : Int) : aev Ecla (inlN Ecla 6) rstC (bodyF (Am.ways [0, 1, 5, 6] [5] []) []) (rstS f n [] i) =
 bif decide (i < n) then bif decide (i < 100) then some (.normal, rstS f n [u8 (rstE (mx0 f) i)] (IntKind.i64.wrap (i + 1))) else some (.exit 0, rstX [])
 else some (.exit 0, rstX []) := by kernel_rfl
theorem rst_b1 (f n : Int) (x : UInt8) (l : List UInt8) (i : Int) : aev Ecla (inlN Ecla 6) rstC (bodyF (Am.ways [0, 1, 5, 6] [5] []) []) (rstS f n (x :: l) i) =
 bif decide (i < n) then bif decide (i < 100) then
 bif andT true (Nat.ble (((x :: l) ++ [u8 (rstE (mx0 f) i)]).length * 1) 140737488355328) then some (.normal, rstS f n ((x :: l) ++ [u8 (rstE (mx0 f) i)]) (IntKind.i64.wrap (i + 1))) else none
 else some (.exit 0, rstX (x :: l))
 else some (.exit 0, rstX (x :: l)) := by kernel_rfl
theorem rst_cons (f : Int) {k : Nat} (hk : 0 < k) : ∃ x r, stL f k = x :: r := by
 cases h : stL f k with
 | nil => have := stL_len f k; rw [h] at this; simp at this; omega
 | cons x r => exact ⟨x, r, rfl⟩
theorem mnS_lt {n i : Int} (h0 : 0 ≤ i) : i < mnS n ↔ i < n ∧ i < 100 := by
 unfold mnS mx0
 split <;> split <;> omega
theorem rst_loop : LoopOk Tryz.prog rstC.erase [] rstG := by
 refine loopX_ok Ecla_ok (d := 6) (AC.flat_ok (by kernel_rfl)) (Am.ways [0, 1, 5, 6] [5] []) [] rstGet _ _ rstI (fun x => (mnS x.n - x.i).toNat) (fun x => by cases x with | mk f n l i => cases l <;> rfl) ?_
 rintro ⟨f, n, l, i⟩ ⟨h0, h1, hl⟩
 simp only at h0 h1 hl ⊢
 have hM := mnS_hi n
 obtain ⟨k, rfl⟩ := Int.eq_ofNat_of_zero_le h0
 simp only [Int.toNat_natCast] at hl
 have hlt := mnS_lt (n := n) h0
 cases l with
 | nil =>
  have hk : k = 0 := by have := congrArg List.length hl; rw [stL_len] at this; simpa using this.symm
  subst hk
  rw [rst_b0]
  by_cases hi : ((0 : Nat) : Int) < mnS n
  ·obtain ⟨c1, c2⟩ := hlt.1 hi
   refine .inl ⟨⟨f, n, [u8 (rstE (mx0 f) ((0 : Nat) : Int))], ((0 : Nat) : Int) + 1⟩, ?_, ⟨by dsimp only; omega, by dsimp only; omega, ?_⟩, by dsimp only; omega, leaf_eq rfl⟩
   ·simp (disch := omega) only [tre]
   ·dsimp only
    rw [rstE_eq]
    rfl
  ·refine .inr ⟨.exit 0, rstX [], ?_, nofun, leaf_t (ieq_t (by omega)) .leaf⟩
   by_cases c : ((0 : Nat) : Int) < n
   ·exact absurd (hlt.2 ⟨c, by omega⟩) hi
   ·simp (disch := omega) only [tre]
 | cons x r =>
  have hk : 0 < k := by
   rcases Nat.eq_zero_or_pos k with h | h
   ·subst h; cases hl
   ·exact h
  have hlen : (x :: r).length = k := by rw [hl, stL_len]
  rw [rst_b1]
  by_cases hi : (k : Int) < mnS n
  ·obtain ⟨c1, c2⟩ := hlt.1 hi
   refine .inl ⟨⟨f, n, (x :: r) ++ [u8 (rstE (mx0 f) k)], (k : Int) + 1⟩, ?_, ⟨by dsimp only; omega, by dsimp only; omega, ?_⟩, by dsimp only; omega, leaf_eq rfl⟩
   ·have : (((x :: r) ++ [u8 (rstE (mx0 f) k)]).length * 1) ≤ 140737488355328 := by rw [List.length_append, hlen]; simp; omega
    simp (disch := omega) only [tre]
   ·dsimp only
    rw [rstE_eq, hl, show ((k : Int) + 1).toNat = k + 1 by omega]
    rfl
  ·have e : mnS n = k := by omega
   refine .inr ⟨.exit 0, rstX (x :: r), ?_, nofun, leaf_f (ieq_f (by omega)) ?_⟩
   ·by_cases c : (k : Int) < n
    ·have c2 : ¬ (k : Int) < 100 := fun h => hi (hlt.2 ⟨c, h⟩)
     simp (disch := omega) only [tre]
    ·simp (disch := omega) only [tre]
   ·rw [show (x :: r) = stL (mx0 f) (mnS n).toNat by rw [hl, e]; rfl] at *
    obtain ⟨y, q, hq⟩ := rst_cons (mx0 f) (k := (mnS n).toNat) (by omega)
    rw [hq]
    exact .leaf
theorem af_rClStream_ok : AllOk Tryz.prog 21 af_rClStream := .sums Tryz.func21 (by kernel_rfl) (by kernel_rfl) (by kernel_rfl) (by kernel_rfl) (sums_one (c := rstC) (ts := [0, 1, 5, 6]) (by kernel_rfl) (by kernel_rfl) rst_loop)
noncomputable def rstOk (f n : Int) : Bool := okG (rstS f n [] 0 = rstS f n [] 0 ∧ rstI ⟨f, n, [], 0⟩)
theorem rClStream_t (f n : Int) : callV Ecla af_rClStream [.int .i64 f, .int .i64 n] =
 bif rstOk f n then bif mnS n == 0 then some (.ownv 5 (.bytes [])) else some (.ownv 5 (.bytes (stL (mx0 f) (mnS n).toNat))) else none := by kernel_rfl
theorem rClStream_v (f n : Int) : callV Ecla af_rClStream [.int .i64 f, .int .i64 n] = some (.ownv 5 (.bytes (stL (mx0 f) (mnS n).toNat))) := by
 have h0 := mnS_lo n
 rw [rClStream_t, show rstOk f n = true from okG_t ⟨rfl, Int.le_refl 0, h0, rfl⟩]
 by_cases h : mnS n = 0
 ·rw [h]; rfl
 ·simp (disch := omega) only [tre]
theorem rClStream_con : ∀ vs v, cStream vs = some (v, true) → SpecV Tryz.prog 21 vs v := by
 intro vs v h; unfold cStream at h; split at h
 ·rename_i f n
  injection h with h; injection h with h hb; subst h
  exact callV_ok Ecla_ok af_rClStream_ok (rClStream_v f n)
 ·cases h
abbrev shFlw : Sh := .agg [.barr 16, .int .i64, .barr 16, .int .i64]
abbrev shCall : Sh := .agg [shFlw, .int .i64, .int .u32, .int .u32, .int .u32, .int .u32, .int .i64, .int .i64, .int .i64, .int .i64]
structure Cal where
 s : List UInt8
 sp : Int
 d : List UInt8
 dp : Int
 st : Int
 fi : Int
 nx : Int
 un : Int
 se : Int
 off : Int
 lo : Int
 si : Int
 ag : Int
def Cal.v (c : Cal) : V := .agg [.agg [.barr 16 c.s, .int .i64 c.sp, .barr 16 c.d, .int .i64 c.dp], .int .i64 c.st, .int .u32 c.fi, .int .u32 c.nx, .int .u32 c.un, .int .u32 c.se, .int .i64 c.off, .int .i64 c.lo, .int .i64 c.si, .int .i64 c.ag]
def hdV (l : List V) : V := l.headD .undef
def calOf (v : V) : Cal :=
  ⟨toA (hdV (toG (hdV (toG v)))), toI (hdV (toG (hdV (toG v))).tail), toA (hdV (toG (hdV (toG v))).tail.tail), toI (hdV (toG (hdV (toG v))).tail.tail.tail),
   toI (hdV (toG v).tail), toI (hdV (toG v).tail.tail), toI (hdV (toG v).tail.tail.tail), toI (hdV (toG v).tail.tail.tail.tail), toI (hdV (toG v).tail.tail.tail.tail.tail),
   toI (hdV (toG v).tail.tail.tail.tail.tail.tail), toI (hdV (toG v).tail.tail.tail.tail.tail.tail.tail), toI (hdV (toG v).tail.tail.tail.tail.tail.tail.tail.tail), toI (hdV (toG v).tail.tail.tail.tail.tail.tail.tail.tail.tail)⟩
def atC (L : List V) (i : Nat) : Cal := calOf (L.getD i .undef)
def upC (L : List V) (i : Nat) (c : Cal) : List V := L.set i c.v
theorem atC_up {L : List V} {i : Nat} (h : i < L.length) (c : Cal) : atC (upC L i c) i = c := by
 unfold atC upC
 rw [List.getD_eq_getElem?_getD, List.getElem?_set_self h]
 rfl
theorem upC_up (L : List V) (i : Nat) (c d : Cal) : upC (upC L i c) i d = upC L i d := by
 unfold upC
 rw [List.set_set]
theorem upC_len (L : List V) (i : Nat) (c : Cal) : (upC L i c).length = L.length := by unfold upC; rw [List.length_set]
def sgF (c : Cal) (sq fl : Int) (pl : List UInt8) : List UInt8 := pkB c.s c.d ⟨c.sp, c.dp, sq, if fl = 2 then 0 else c.nx, fl, 4096, 0, 0, [], pl⟩
noncomputable def af_clPacket : AF := afOf Tryz.prog Tryz.f51 []
theorem af_clPacket_ok : AllOk Tryz.prog 51 af_clPacket := .flat Tryz.func51 (by kernel_rfl) (by kernel_rfl) (by kernel_rfl) (by kernel_rfl) (by kernel_rfl)
noncomputable def af_clOut : AF := afOf Tryz.prog Tryz.f49 []
theorem af_clOut_ok : AllOk Tryz.prog 49 af_clOut := .flat Tryz.func49 (by kernel_rfl) (by kernel_rfl) (by kernel_rfl) (by kernel_rfl) (by kernel_rfl)
noncomputable def af_clLives : AF := afOf Tryz.prog Tryz.f50 []
theorem af_clLives_ok : AllOk Tryz.prog 50 af_clLives := .flat Tryz.func50 (by kernel_rfl) (by kernel_rfl) (by kernel_rfl) (by kernel_rfl) (by kernel_rfl)
noncomputable def af_rClSeg : AF := afOf Tryz.prog Tryz.f89 []
theorem af_rClSeg_ok : AllOk Tryz.prog 89 af_rClSeg := .flat Tryz.func89 (by kernel_rfl) (by kernel_rfl) (by kernel_rfl) (by kernel_rfl) (by kernel_rfl)
noncomputable def GEclb : List (Nat × Con) := [(80, .val [.barr 16, .barr 16, .agg [.int .i64, .int .i64, .int .u32, .int .u32, .int .i64, .int .i64, .int .i64, .int .i64, .rows (.agg [.int .i64, .bytes]), .bytes]] cPkTcp), (25, .val [.barr 16, .barr 16, .agg [.int .i64, .int .i64, .int .u32, .int .u32, .int .i64, .int .i64, .int .i64, .int .i64, .rows (.agg [.int .i64, .bytes]), .bytes]] cPkTcp), (79, .val [.agg [.int .i64, .int .i64, .int .u32, .int .u32, .int .i64, .int .i64, .int .i64, .int .i64, .rows (.agg [.int .i64, .bytes]), .bytes], .int .i64] cTcHas)]
theorem GEclb_ok : GOk Tryz.prog GEclb := .cons (enters_of Tryz.func80 (by kernel_rfl) rfl) pkTcp_con <| .cons (enters_of Tryz.func25 (by kernel_rfl) rfl) rPkTcp_con <| .cons (enters_of Tryz.func79 (by kernel_rfl) rfl) tcHas_con <| .nil
noncomputable def IEclb : List (Nat × AF) := []
theorem IEclb_ok : IOk Tryz.prog IEclb := .nil
noncomputable def CEclb : List (Nat × (List Nat × (S → Option (Bool × Tr)))) := []
theorem CEclb_ok : COk Tryz.prog CEclb := .nil
noncomputable def XEclb : List (Nat × (List Sh × (List V → PT))) := []
theorem XEclb_ok : XOk Tryz.prog XEclb := .nil
noncomputable def Eclb : Env := ⟨Tryz.prog, GEclb, IEclb, CEclb, XEclb, false⟩
theorem Eclb_ok : EnvOk Eclb := ⟨by kernel_rfl, GEclb_ok, IEclb_ok, CEclb_ok, XEclb_ok⟩
theorem clOut_t (s d : List UInt8) (sp dp st fi nx un se of lo si ag : Int) : callV Eclb af_clOut [.vref shCall (.agg [.agg [.barr 16 s, .int .i64 sp, .barr 16 d, .int .i64 dp], .int .i64 st, .int .u32 fi, .int .u32 nx, .int .u32 un, .int .u32 se, .int .i64 of, .int .i64 lo, .int .i64 si, .int .i64 ag])] =
 some (V.bool (un != se)) := by kernel_rfl
theorem clLives_t (s d : List UInt8) (sp dp st fi nx un se of lo si ag : Int) : callV Eclb af_clLives [.vref shCall (.agg [.agg [.barr 16 s, .int .i64 sp, .barr 16 d, .int .i64 dp], .int .i64 st, .int .u32 fi, .int .u32 nx, .int .u32 un, .int .u32 se, .int .i64 of, .int .i64 lo, .int .i64 si, .int .i64 ag])] =
 bif decide (st ≥ (1 : Int)) then some (V.bool (decide (st ≤ (3 : Int)))) else some (V.bool false) := by kernel_rfl
theorem clPacket_t (s d : List UInt8) (sp dp st fi nx un se of lo si ag : Int) (sq fl : Int) (pl : List UInt8) : callV Eclb af_clPacket [.vref shCall (.agg [.agg [.barr 16 s, .int .i64 sp, .barr 16 d, .int .i64 dp], .int .i64 st, .int .u32 fi, .int .u32 nx, .int .u32 un, .int .u32 se, .int .i64 of, .int .i64 lo, .int .i64 si, .int .i64 ag]), .int .u32 sq, .int .i64 fl, .bytes pl] =
 bif bits BinOp.and IntKind.i64 fl (16 : Int) == (16 : Int) then
 bif
 andT true (decide (((0 : Int) ≤ sq ∧ sq ≤ (4294967295 : Int)) ∧ (0 : Int) ≤ nx ∧ nx ≤ (4294967295 : Int))) &&
 true then
 some
 (V.ownv (5 : Nat)
 (V.bytes
 (pkB s d
 { sp := sp, dp := dp, sq := sq, ak := nx, fl := fl, wn := (4096 : Int), sm := (0 : Int), ug := (0 : Int), op := [], pl := pl })))
 else none
 else
 bif
 andT true
 (decide
 (((0 : Int) ≤ sq ∧ sq ≤ (4294967295 : Int)) ∧ (0 : Int) ≤ (0 : Int) ∧ (0 : Int) ≤ (4294967295 : Int))) &&
 true then
 some
 (V.ownv (5 : Nat)
 (V.bytes
 (pkB s d
 { sp := sp, dp := dp, sq := sq, ak := (0 : Int), fl := fl, wn := (4096 : Int), sm := (0 : Int), ug := (0 : Int), op := [], pl := pl })))
 else none := by kernel_rfl
theorem rClSeg_t (s d : List UInt8) (sp dp st fi nx un se of lo si ag : Int) (sq fl : Int) (pl : List UInt8) : callV Eclb af_rClSeg [.agg [.agg [.barr 16 s, .int .i64 sp, .barr 16 d, .int .i64 dp], .int .i64 st, .int .u32 fi, .int .u32 nx, .int .u32 un, .int .u32 se, .int .i64 of, .int .i64 lo, .int .i64 si, .int .i64 ag], .int .u32 sq, .int .i64 fl, .bytes pl] =
 bif fl != (2 : Int) then
 bif andT true (decide (((0 : Int) ≤ sq ∧ sq ≤ (4294967295 : Int)) ∧ (0 : Int) ≤ nx ∧ nx ≤ (4294967295 : Int))) then
 some
 (V.ownv (5 : Nat)
 (V.bytes
 (pkB s d
 { sp := sp, dp := dp, sq := sq, ak := nx, fl := fl, wn := (4096 : Int), sm := (0 : Int), ug := (0 : Int), op := [], pl := pl })))
 else none
 else
 bif
 andT true
 (decide
 (((0 : Int) ≤ sq ∧ sq ≤ (4294967295 : Int)) ∧ (0 : Int) ≤ (0 : Int) ∧ (0 : Int) ≤ (4294967295 : Int))) then
 some
 (V.ownv (5 : Nat)
 (V.bytes
 (pkB s d
 { sp := sp, dp := dp, sq := sq, ak := (0 : Int), fl := fl, wn := (4096 : Int), sm := (0 : Int), ug := (0 : Int), op := [], pl := pl })))
 else none := by kernel_rfl
def cClOut : List V → Option (V × Bool)
 | [.vref (.agg [.agg [.barr 16, .int .i64, .barr 16, .int .i64], .int .i64, .int .u32, .int .u32, .int .u32, .int .u32, .int .i64, .int .i64, .int .i64, .int .i64]) (.agg [.agg [.barr 16 s, .int .i64 sp, .barr 16 d, .int .i64 dp], .int .i64 st, .int .u32 fi, .int .u32 nx, .int .u32 un, .int .u32 se, .int .i64 of, .int .i64 lo, .int .i64 si, .int .i64 ag])] => some (.bool (un != se), true)
 | _ => none
theorem clOut_con : ∀ vs v, cClOut vs = some (v, true) → SpecV Tryz.prog 49 vs v := by
 intro vs v h; unfold cClOut at h; split at h
 ·rename_i s sp d dp st fi nx un se of lo si ag
  injection h with h; injection h with h hb; subst h
  exact callV_ok Eclb_ok af_clOut_ok (clOut_t s d sp dp st fi nx un se of lo si ag)
 ·cases h
def cClLives : List V → Option (V × Bool)
 | [.vref (.agg [.agg [.barr 16, .int .i64, .barr 16, .int .i64], .int .i64, .int .u32, .int .u32, .int .u32, .int .u32, .int .i64, .int .i64, .int .i64, .int .i64]) (.agg [.agg [.barr 16 s, .int .i64 sp, .barr 16 d, .int .i64 dp], .int .i64 st, .int .u32 fi, .int .u32 nx, .int .u32 un, .int .u32 se, .int .i64 of, .int .i64 lo, .int .i64 si, .int .i64 ag])] => some (.bool (decide (1 ≤ st) && decide (st ≤ 3)), true)
 | _ => none
theorem clLives_con : ∀ vs v, cClLives vs = some (v, true) → SpecV Tryz.prog 50 vs v := by
 intro vs v h; unfold cClLives at h; split at h
 ·rename_i s sp d dp st fi nx un se of lo si ag
  injection h with h; injection h with h hb; subst h
  exact callV_ok Eclb_ok af_clLives_ok ((by rw [clLives_t]; by_cases h : st ≥ 1 <;> simp [h]))
 ·cases h
theorem clPacket_v (c : Cal) (sq fl : Int) (pl : List UInt8) (h : (fl = 2 ∨ fl = 16 ∨ fl = 17 ∨ fl = 24) ∧ u32ok sq ∧ u32ok c.nx) : callV Eclb af_clPacket [.vref shCall c.v, .int .u32 sq, .int .i64 fl, .bytes pl] = some (.ownv 5 (.bytes (sgF c sq fl pl))) := by
 obtain ⟨s, d, sp, dp, st, fi, nx, un, se, of, lo, si, ag⟩ := c
 obtain ⟨h, ⟨h1, h2⟩, h3, h4⟩ := h
 simp only at h3 h4
 unfold Cal.v
 simp only
 rw [clPacket_t]
 rcases h with rfl | rfl | rfl | rfl
 ·rw [show (bits BinOp.and IntKind.i64 2 16 == (16 : Int)) = false from rfl]
  simp (disch := omega) only [tre]
  rfl
 ·rw [show (bits BinOp.and IntKind.i64 16 16 == (16 : Int)) = true from rfl]
  simp (disch := omega) only [tre]
  rfl
 ·rw [show (bits BinOp.and IntKind.i64 17 16 == (16 : Int)) = true from rfl]
  simp (disch := omega) only [tre]
  rfl
 ·rw [show (bits BinOp.and IntKind.i64 24 16 == (16 : Int)) = true from rfl]
  simp (disch := omega) only [tre]
  rfl
def cClPacket : List V → Option (V × Bool)
 | [.vref (.agg [.agg [.barr 16, .int .i64, .barr 16, .int .i64], .int .i64, .int .u32, .int .u32, .int .u32, .int .u32, .int .i64, .int .i64, .int .i64, .int .i64]) (.agg [.agg [.barr 16 s, .int .i64 sp, .barr 16 d, .int .i64 dp], .int .i64 st, .int .u32 fi, .int .u32 nx, .int .u32 un, .int .u32 se, .int .i64 of, .int .i64 lo, .int .i64 si, .int .i64 ag]), .int .u32 sq, .int .i64 fl, .bytes pl] => some (.ownv 5 (.bytes (sgF ⟨s, sp, d, dp, st, fi, nx, un, se, of, lo, si, ag⟩ sq fl pl)), decide ((fl = 2 ∨ fl = 16 ∨ fl = 17 ∨ fl = 24) ∧ u32ok sq ∧ u32ok nx))
 | _ => none
theorem clPacket_con : ∀ vs v, cClPacket vs = some (v, true) → SpecV Tryz.prog 51 vs v := by
 intro vs v h; unfold cClPacket at h; split at h
 ·rename_i s sp d dp st fi nx un se of lo si ag sq fl pl
  injection h with h; injection h with h hb; subst h
  exact callV_ok Eclb_ok af_clPacket_ok (clPacket_v ⟨s, sp, d, dp, st, fi, nx, un, se, of, lo, si, ag⟩ sq fl pl (of_decide_eq_true hb))
 ·cases h
theorem rClSeg_v (c : Cal) (sq fl : Int) (pl : List UInt8) (h : u32ok sq ∧ u32ok c.nx) : callV Eclb af_rClSeg [c.v, .int .u32 sq, .int .i64 fl, .bytes pl] = some (.ownv 5 (.bytes (sgF c sq fl pl))) := by
 obtain ⟨s, d, sp, dp, st, fi, nx, un, se, of, lo, si, ag⟩ := c
 obtain ⟨⟨h1, h2⟩, h3, h4⟩ := h
 simp only at h3 h4
 unfold Cal.v
 simp only
 rw [rClSeg_t]
 unfold sgF
 by_cases h : fl = 2
 ·rw [if_pos h]
  simp (disch := omega) only [tre]
 ·rw [if_neg h]
  simp (disch := omega) only [tre]
def cRClSeg : List V → Option (V × Bool)
 | [.agg [.agg [.barr 16 s, .int .i64 sp, .barr 16 d, .int .i64 dp], .int .i64 st, .int .u32 fi, .int .u32 nx, .int .u32 un, .int .u32 se, .int .i64 of, .int .i64 lo, .int .i64 si, .int .i64 ag], .int .u32 sq, .int .i64 fl, .bytes pl] => some (.ownv 5 (.bytes (sgF ⟨s, sp, d, dp, st, fi, nx, un, se, of, lo, si, ag⟩ sq fl pl)), decide (u32ok sq ∧ u32ok nx))
 | _ => none
theorem rClSeg_con : ∀ vs v, cRClSeg vs = some (v, true) → SpecV Tryz.prog 89 vs v := by
 intro vs v h; unfold cRClSeg at h; split at h
 ·rename_i s sp d dp st fi nx un se of lo si ag sq fl pl
  injection h with h; injection h with h hb; subst h
  exact callV_ok Eclb_ok af_rClSeg_ok (rClSeg_v ⟨s, sp, d, dp, st, fi, nx, un, se, of, lo, si, ag⟩ sq fl pl (of_decide_eq_true hb))
 ·cases h
noncomputable def af_rClBit : AF := afOf Tryz.prog Tryz.f90 []
theorem af_rClBit_ok : AllOk Tryz.prog 90 af_rClBit := .flat Tryz.func90 (by kernel_rfl) (by kernel_rfl) (by kernel_rfl) (by kernel_rfl) (by kernel_rfl)
noncomputable def af_rClAck : AF := afOf Tryz.prog Tryz.f91 []
theorem af_rClAck_ok : AllOk Tryz.prog 91 af_rClAck := .flat Tryz.func91 (by kernel_rfl) (by kernel_rfl) (by kernel_rfl) (by kernel_rfl) (by kernel_rfl)
noncomputable def af_rClLast : AF := afOf Tryz.prog Tryz.f56 []
theorem af_rClLast_ok : AllOk Tryz.prog 56 af_rClLast := .flat Tryz.func56 (by kernel_rfl) (by kernel_rfl) (by kernel_rfl) (by kernel_rfl) (by kernel_rfl)
noncomputable def af_rClTakes : AF := afOf Tryz.prog Tryz.f60 []
theorem af_rClTakes_ok : AllOk Tryz.prog 60 af_rClTakes := .flat Tryz.func60 (by kernel_rfl) (by kernel_rfl) (by kernel_rfl) (by kernel_rfl) (by kernel_rfl)
noncomputable def GEclc0 : List (Nat × Con) := []
theorem GEclc0_ok : GOk Tryz.prog GEclc0 := .nil
noncomputable def IEclc0 : List (Nat × AF) := []
theorem IEclc0_ok : IOk Tryz.prog IEclc0 := .nil
noncomputable def CEclc0 : List (Nat × (List Nat × (S → Option (Bool × Tr)))) := []
theorem CEclc0_ok : COk Tryz.prog CEclc0 := .nil
noncomputable def XEclc0 : List (Nat × (List Sh × (List V → PT))) := []
theorem XEclc0_ok : XOk Tryz.prog XEclc0 := .nil
noncomputable def Eclc0 : Env := ⟨Tryz.prog, GEclc0, IEclc0, CEclc0, XEclc0, false⟩
theorem Eclc0_ok : EnvOk Eclc0 := ⟨by kernel_rfl, GEclc0_ok, IEclc0_ok, CEclc0_ok, XEclc0_ok⟩
theorem rClBit_t (sp dp sq ak fl wn sm ug : Int) (op : List V) (pl : List UInt8) (k : Int) : callV Eclc0 af_rClBit [.agg [.int .i64 sp, .int .i64 dp, .int .u32 sq, .int .u32 ak, .int .i64 fl, .int .i64 wn, .int .i64 sm, .int .i64 ug, .rows (.agg [.int .i64, .bytes]) op, .bytes pl], .int .i64 k] =
 some (V.bool (bits BinOp.and IntKind.i64 fl k != (0 : Int))) := by kernel_rfl
def cRClBit : List V → Option (V × Bool)
 | [.agg [.int .i64 sp, .int .i64 dp, .int .u32 sq, .int .u32 ak, .int .i64 fl, .int .i64 wn, .int .i64 sm, .int .i64 ug, .rows (.agg [.int .i64, .bytes]) op, .bytes pl], .int .i64 k] => some (.bool (bits .and .i64 fl k != 0), true)
 | _ => none
theorem rClBit_con : ∀ vs v, cRClBit vs = some (v, true) → SpecV Tryz.prog 90 vs v := by
 intro vs v h; unfold cRClBit at h; split at h
 ·rename_i sp dp sq ak fl wn sm ug op pl k
  injection h with h; injection h with h hb; subst h
  exact callV_ok Eclc0_ok af_rClBit_ok (rClBit_t sp dp sq ak fl wn sm ug op pl k)
 ·cases h
noncomputable def GEclc : List (Nat × Con) := [(89, .val [.agg [.agg [.barr 16, .int .i64, .barr 16, .int .i64], .int .i64, .int .u32, .int .u32, .int .u32, .int .u32, .int .i64, .int .i64, .int .i64, .int .i64], .int .u32, .int .i64, .bytes] cRClSeg), (21, .val [.int .i64, .int .i64] cStream)]
theorem GEclc_ok : GOk Tryz.prog GEclc := .cons (enters_of Tryz.func89 (by kernel_rfl) rfl) rClSeg_con <| .cons (enters_of Tryz.func21 (by kernel_rfl) rfl) rClStream_con <| .nil
noncomputable def IEclc : List (Nat × AF) := []
theorem IEclc_ok : IOk Tryz.prog IEclc := .nil
noncomputable def CEclc : List (Nat × (List Nat × (S → Option (Bool × Tr)))) := []
theorem CEclc_ok : COk Tryz.prog CEclc := .nil
noncomputable def XEclc : List (Nat × (List Sh × (List V → PT))) := []
theorem XEclc_ok : XOk Tryz.prog XEclc := .nil
noncomputable def Eclc : Env := ⟨Tryz.prog, GEclc, IEclc, CEclc, XEclc, false⟩
theorem Eclc_ok : EnvOk Eclc := ⟨by kernel_rfl, GEclc_ok, IEclc_ok, CEclc_ok, XEclc_ok⟩
theorem rClAck_t (c : Cal) : callV Eclc af_rClAck [c.v] =
 bif
 andT true
 (decide (((0 : Int) ≤ c.9 ∧ c.9 ≤ (4294967295 : Int)) ∧ (0 : Int) ≤ c.7 ∧ c.7 ≤ (4294967295 : Int))) then
 some
 (V.ownv (34 : Nat)
 (V.rows Sh.bytes
 (V.bytes
 (sgF
 { s := c.1, sp := c.2, d := c.3, dp := c.4, st := c.5, fi := c.6, nx := c.7, un := c.8, se := c.9, off := c.10, lo := c.11, si := c.12, ag := c.13 }
 c.9 (16 : Int) []) ::
 List.replicate (nat_lit 0) (V.bytes []))))
 else none := by kernel_rfl
theorem rClLast_t (c : Cal) : callV Eclc af_rClLast [c.v] =
 bif c.8 == c.9 then some (V.ownv (34 : Nat) (V.rows Sh.bytes []))
 else
 bif decide (c.5 > (3 : Int)) then some (V.ownv (34 : Nat) (V.rows Sh.bytes []))
 else
 bif c.5 == (1 : Int) then
 bif
 andT true
 (decide (((0 : Int) ≤ c.8 ∧ c.8 ≤ (4294967295 : Int)) ∧ (0 : Int) ≤ c.7 ∧ c.7 ≤ (4294967295 : Int))) then
 some
 (V.ownv (34 : Nat)
 (V.rows Sh.bytes
 (V.bytes
 (sgF
 { s := c.1, sp := c.2, d := c.3, dp := c.4, st := c.5, fi := c.6, nx := c.7, un := c.8, se := c.9, off := c.10, lo := c.11, si := c.12, ag := c.13 }
 c.8 (2 : Int) []) ::
 List.replicate (nat_lit 0) (V.bytes []))))
 else none
 else
 bif decide (c.11 > (0 : Int)) then
 bif
 andT true
 (decide
 (((0 : Int) ≤ c.8 ∧ c.8 ≤ (4294967295 : Int)) ∧ (0 : Int) ≤ c.7 ∧ c.7 ≤ (4294967295 : Int))) &&
 true then
 some
 (V.ownv (34 : Nat)
 (V.rows Sh.bytes
 (V.bytes
 (sgF
 { s := c.1, sp := c.2, d := c.3, dp := c.4, st := c.5, fi := c.6, nx := c.7, un := c.8, se := c.9, off := c.10, lo := c.11, si := c.12, ag := c.13 }
 c.8 (24 : Int) (stL (mx0 c.10) (mnS c.11).toNat)) ::
 List.replicate (nat_lit 0) (V.bytes []))))
 else none
 else
 bif
 andT true
 (decide
 (((0 : Int) ≤ c.8 ∧ c.8 ≤ (4294967295 : Int)) ∧ (0 : Int) ≤ c.7 ∧ c.7 ≤ (4294967295 : Int))) then
 some
 (V.ownv (34 : Nat)
 (V.rows Sh.bytes
 (V.bytes
 (sgF
 { s := c.1, sp := c.2, d := c.3, dp := c.4, st := c.5, fi := c.6, nx := c.7, un := c.8, se := c.9, off := c.10, lo := c.11, si := c.12, ag := c.13 }
 c.8 (17 : Int) []) ::
 List.replicate (nat_lit 0) (V.bytes []))))
 else none := by kernel_rfl
def akF (c : Cal) : List V := [.bytes (sgF c c.se 16 [])]
def lsF (c : Cal) : List V :=
 if c.un = c.se then [] else if c.st > 3 then [] else if c.st = 1 then [.bytes (sgF c c.un 2 [])]
 else if c.lo > 0 then [.bytes (sgF c c.un 24 (stL (mx0 c.off) (mnS c.lo).toNat))] else [.bytes (sgF c c.un 17 [])]
abbrev cOk (c : Cal) : Prop := u32ok c.nx ∧ u32ok c.un ∧ u32ok c.se
theorem rClAck_v (c : Cal) (h : cOk c) : callV Eclc af_rClAck [c.v] = some (.ownv 34 (.rows .bytes (akF c))) := by
 obtain ⟨⟨h1, h2⟩, ⟨h3, h4⟩, h5, h6⟩ := h
 rw [rClAck_t]
 simp (disch := omega) only [tre]
 rfl
theorem rClLast_v (c : Cal) (h : cOk c) : callV Eclc af_rClLast [c.v] = some (.ownv 34 (.rows .bytes (lsF c))) := by
 obtain ⟨⟨h1, h2⟩, ⟨h3, h4⟩, h5, h6⟩ := h
 rw [rClLast_t]
 unfold lsF
 repeat' split
 all_goals
  simp (disch := omega) only [tre]
 all_goals rfl
def cRClAck : List V → Option (V × Bool)
 | [.agg [.agg [.barr 16 s, .int .i64 sp, .barr 16 d, .int .i64 dp], .int .i64 st, .int .u32 fi, .int .u32 nx, .int .u32 un, .int .u32 se, .int .i64 of, .int .i64 lo, .int .i64 si, .int .i64 ag]] => some (.ownv 34 (.rows .bytes (akF ⟨s, sp, d, dp, st, fi, nx, un, se, of, lo, si, ag⟩)), decide (u32ok nx ∧ u32ok un ∧ u32ok se))
 | _ => none
theorem rClAck_con : ∀ vs v, cRClAck vs = some (v, true) → SpecV Tryz.prog 91 vs v := by
 intro vs v h; unfold cRClAck at h; split at h
 ·rename_i s sp d dp st fi nx un se of lo si ag
  injection h with h; injection h with h hb; subst h
  exact callV_ok Eclc_ok af_rClAck_ok (rClAck_v ⟨s, sp, d, dp, st, fi, nx, un, se, of, lo, si, ag⟩ (of_decide_eq_true hb))
 ·cases h
def cRClLast : List V → Option (V × Bool)
 | [.agg [.agg [.barr 16 s, .int .i64 sp, .barr 16 d, .int .i64 dp], .int .i64 st, .int .u32 fi, .int .u32 nx, .int .u32 un, .int .u32 se, .int .i64 of, .int .i64 lo, .int .i64 si, .int .i64 ag]] => some (.ownv 34 (.rows .bytes (lsF ⟨s, sp, d, dp, st, fi, nx, un, se, of, lo, si, ag⟩)), decide (u32ok nx ∧ u32ok un ∧ u32ok se))
 | _ => none
theorem rClLast_con : ∀ vs v, cRClLast vs = some (v, true) → SpecV Tryz.prog 56 vs v := by
 intro vs v h; unfold cRClLast at h; split at h
 ·rename_i s sp d dp st fi nx un se of lo si ag
  injection h with h; injection h with h hb; subst h
  exact callV_ok Eclc_ok af_rClLast_ok (rClLast_v ⟨s, sp, d, dp, st, fi, nx, un, se, of, lo, si, ag⟩ (of_decide_eq_true hb))
 ·cases h
noncomputable def GEcld : List (Nat × Con) := [(91, .val [.agg [.agg [.barr 16, .int .i64, .barr 16, .int .i64], .int .i64, .int .u32, .int .u32, .int .u32, .int .u32, .int .i64, .int .i64, .int .i64, .int .i64]] cRClAck), (90, .val [.agg [.int .i64, .int .i64, .int .u32, .int .u32, .int .i64, .int .i64, .int .i64, .int .i64, .rows (.agg [.int .i64, .bytes]), .bytes], .int .i64] cRClBit)]
theorem GEcld_ok : GOk Tryz.prog GEcld := .cons (enters_of Tryz.func91 (by kernel_rfl) rfl) rClAck_con <| .cons (enters_of Tryz.func90 (by kernel_rfl) rfl) rClBit_con <| .nil
noncomputable def IEcld : List (Nat × AF) := []
theorem IEcld_ok : IOk Tryz.prog IEcld := .nil
noncomputable def CEcld : List (Nat × (List Nat × (S → Option (Bool × Tr)))) := []
theorem CEcld_ok : COk Tryz.prog CEcld := .nil
noncomputable def XEcld : List (Nat × (List Sh × (List V → PT))) := []
theorem XEcld_ok : XOk Tryz.prog XEcld := .nil
noncomputable def Ecld : Env := ⟨Tryz.prog, GEcld, IEcld, CEcld, XEcld, false⟩
theorem Ecld_ok : EnvOk Ecld := ⟨by kernel_rfl, GEcld_ok, IEcld_ok, CEcld_ok, XEcld_ok⟩
theorem rClTakes_t (c : Cal) (sp dp sq ak fl wn sm ug : Int) (op : List V) (pl : List UInt8) : callV Ecld af_rClTakes [c.v, .agg [.int .i64 sp, .int .i64 dp, .int .u32 sq, .int .u32 ak, .int .i64 fl, .int .i64 wn, .int .i64 sm, .int .i64 ug, .rows (.agg [.int .i64, .bytes]) op, .bytes pl]] =
 bif c.5 == (1 : Int) then
 bif bits BinOp.and IntKind.i64 fl (16 : Int) != (0 : Int) then
 bif ak == c.9 then
 bif bits BinOp.and IntKind.i64 fl (4 : Int) != (0 : Int) then
 some
 (V.tup
 [({ s := c.1, sp := c.2, d := c.3, dp := c.4, st := (5 : Int), fi := c.6, nx := c.7, un := c.8, se := c.9, off := c.10, lo := c.11, si := c.12, ag := c.13 } : Cal).v,
 V.rows Sh.bytes []])
 else
 bif bits BinOp.and IntKind.i64 fl (16 : Int) != (0 : Int) then
 bif ak == c.9 then
 bif bits BinOp.and IntKind.i64 fl (2 : Int) != (0 : Int) then
 bif
 andT true
 (decide
 (((0 : Int) ≤ IntKind.u32.wrap (sq + (1 : Int)) ∧
 IntKind.u32.wrap (sq + (1 : Int)) ≤ (4294967295 : Int)) ∧
 ((0 : Int) ≤ c.9 ∧ c.9 ≤ (4294967295 : Int)) ∧
 (0 : Int) ≤ c.9 ∧ c.9 ≤ (4294967295 : Int))) &&
 true then
 some
 (V.tup
 [({ s := c.1, sp := c.2, d := c.3, dp := c.4, st := (2 : Int), fi := c.6, nx := IntKind.u32.wrap (sq + (1 : Int)), un := c.9, se := c.9, off := c.10, lo := c.11, si := c.12, ag := c.13 } : Cal).v,
 V.rows Sh.bytes
 (akF
 { s := c.1, sp := c.2, d := c.3, dp := c.4, st := (2 : Int), fi := c.6, nx := IntKind.u32.wrap (sq + (1 : Int)), un := c.9, se := c.9, off := c.10, lo := c.11, si := c.12, ag := c.13 })])
 else none
 else some (V.tup [c.v, V.rows Sh.bytes []])
 else some (V.tup [c.v, V.rows Sh.bytes []])
 else some (V.tup [c.v, V.rows Sh.bytes []])
 else
 bif bits BinOp.and IntKind.i64 fl (16 : Int) != (0 : Int) then
 bif ak == c.9 then
 bif bits BinOp.and IntKind.i64 fl (2 : Int) != (0 : Int) then
 bif
 andT true
 (decide
 (((0 : Int) ≤ IntKind.u32.wrap (sq + (1 : Int)) ∧
 IntKind.u32.wrap (sq + (1 : Int)) ≤ (4294967295 : Int)) ∧
 ((0 : Int) ≤ c.9 ∧ c.9 ≤ (4294967295 : Int)) ∧ (0 : Int) ≤ c.9 ∧ c.9 ≤ (4294967295 : Int))) &&
 true then
 some
 (V.tup
 [({ s := c.1, sp := c.2, d := c.3, dp := c.4, st := (2 : Int), fi := c.6, nx := IntKind.u32.wrap (sq + (1 : Int)), un := c.9, se := c.9, off := c.10, lo := c.11, si := c.12, ag := c.13 } : Cal).v,
 V.rows Sh.bytes
 (akF
 { s := c.1, sp := c.2, d := c.3, dp := c.4, st := (2 : Int), fi := c.6, nx := IntKind.u32.wrap (sq + (1 : Int)), un := c.9, se := c.9, off := c.10, lo := c.11, si := c.12, ag := c.13 })])
 else none
 else some (V.tup [c.v, V.rows Sh.bytes []])
 else some (V.tup [c.v, V.rows Sh.bytes []])
 else some (V.tup [c.v, V.rows Sh.bytes []])
 else
 bif bits BinOp.and IntKind.i64 fl (16 : Int) != (0 : Int) then
 bif ak == c.9 then
 bif bits BinOp.and IntKind.i64 fl (2 : Int) != (0 : Int) then
 bif
 andT true
 (decide
 (((0 : Int) ≤ IntKind.u32.wrap (sq + (1 : Int)) ∧
 IntKind.u32.wrap (sq + (1 : Int)) ≤ (4294967295 : Int)) ∧
 ((0 : Int) ≤ c.9 ∧ c.9 ≤ (4294967295 : Int)) ∧ (0 : Int) ≤ c.9 ∧ c.9 ≤ (4294967295 : Int))) &&
 true then
 some
 (V.tup
 [({ s := c.1, sp := c.2, d := c.3, dp := c.4, st := (2 : Int), fi := c.6, nx := IntKind.u32.wrap (sq + (1 : Int)), un := c.9, se := c.9, off := c.10, lo := c.11, si := c.12, ag := c.13 } : Cal).v,
 V.rows Sh.bytes
 (akF
 { s := c.1, sp := c.2, d := c.3, dp := c.4, st := (2 : Int), fi := c.6, nx := IntKind.u32.wrap (sq + (1 : Int)), un := c.9, se := c.9, off := c.10, lo := c.11, si := c.12, ag := c.13 })])
 else none
 else some (V.tup [c.v, V.rows Sh.bytes []])
 else some (V.tup [c.v, V.rows Sh.bytes []])
 else some (V.tup [c.v, V.rows Sh.bytes []])
 else
 bif c.5 == (2 : Int) then
 bif bits BinOp.and IntKind.i64 fl (4 : Int) != (0 : Int) then
 bif sq == c.7 then
 some
 (V.tup
 [({ s := c.1, sp := c.2, d := c.3, dp := c.4, st := (5 : Int), fi := c.6, nx := c.7, un := c.8, se := c.9, off := c.10, lo := c.11, si := c.12, ag := c.13 } : Cal).v,
 V.rows Sh.bytes []])
 else some (V.tup [c.v, V.rows Sh.bytes []])
 else
 bif !bits BinOp.and IntKind.i64 fl (16 : Int) != (0 : Int) then some (V.tup [c.v, V.rows Sh.bytes []])
 else
 bif bits BinOp.and IntKind.i64 fl (2 : Int) != (0 : Int) then
 bif
 andT true
 (decide
 (((0 : Int) ≤ c.7 ∧ c.7 ≤ (4294967295 : Int)) ∧
 ((0 : Int) ≤ c.8 ∧ c.8 ≤ (4294967295 : Int)) ∧ (0 : Int) ≤ c.9 ∧ c.9 ≤ (4294967295 : Int))) &&
 true then
 some
 (V.tup
 [c.v,
 V.rows Sh.bytes
 (akF
 { s := c.1, sp := c.2, d := c.3, dp := c.4, st := c.5, fi := c.6, nx := c.7, un := c.8, se := c.9, off := c.10, lo := c.11, si := c.12, ag := c.13 })])
 else none
 else
 bif c.8 != c.9 then
 bif ak == c.9 then
 bif bits BinOp.and IntKind.i64 fl (1 : Int) != (0 : Int) then
 bif sq == c.7 then
 bif bits BinOp.and IntKind.i64 fl (1 : Int) != (0 : Int) then
 bif sq == IntKind.u32.wrap (IntKind.u32.wrap (c.7 + (1 : Int)) - (1 : Int)) then
 bif
 andT true
 (decide
 (((0 : Int) ≤ IntKind.u32.wrap (c.7 + (1 : Int)) ∧
 IntKind.u32.wrap (c.7 + (1 : Int)) ≤ (4294967295 : Int)) ∧
 ((0 : Int) ≤ c.9 ∧ c.9 ≤ (4294967295 : Int)) ∧
 (0 : Int) ≤ c.9 ∧ c.9 ≤ (4294967295 : Int))) &&
 true then
 some
 (V.tup
 [({ s := c.1, sp := c.2, d := c.3, dp := c.4, st := (4 : Int), fi := c.6, nx := IntKind.u32.wrap (c.7 + (1 : Int)), un := c.9, se := c.9, off := IntKind.i64.wrap (c.10 + c.11), lo := (0 : Int), si := c.12, ag := c.13 } : Cal).v,
 V.rows Sh.bytes
 (akF
 { s := c.1, sp := c.2, d := c.3, dp := c.4, st := (4 : Int), fi := c.6, nx := IntKind.u32.wrap (c.7 + (1 : Int)), un := c.9, se := c.9, off := IntKind.i64.wrap (c.10 + c.11), lo := (0 : Int), si := c.12, ag := c.13 })])
 else none
 else
 some
 (V.tup
 [({ s := c.1, sp := c.2, d := c.3, dp := c.4, st := (4 : Int), fi := c.6, nx := IntKind.u32.wrap (c.7 + (1 : Int)), un := c.9, se := c.9, off := IntKind.i64.wrap (c.10 + c.11), lo := (0 : Int), si := c.12, ag := c.13 } : Cal).v,
 V.rows Sh.bytes []])
 else
 some
 (V.tup
 [({ s := c.1, sp := c.2, d := c.3, dp := c.4, st := (4 : Int), fi := c.6, nx := IntKind.u32.wrap (c.7 + (1 : Int)), un := c.9, se := c.9, off := IntKind.i64.wrap (c.10 + c.11), lo := (0 : Int), si := c.12, ag := c.13 } : Cal).v,
 V.rows Sh.bytes []])
 else
 bif bits BinOp.and IntKind.i64 fl (1 : Int) != (0 : Int) then
 bif sq == IntKind.u32.wrap (c.7 - (1 : Int)) then
 bif
 andT true
 (decide
 (((0 : Int) ≤ c.7 ∧ c.7 ≤ (4294967295 : Int)) ∧
 ((0 : Int) ≤ c.9 ∧ c.9 ≤ (4294967295 : Int)) ∧
 (0 : Int) ≤ c.9 ∧ c.9 ≤ (4294967295 : Int))) &&
 true then
 some
 (V.tup
 [({ s := c.1, sp := c.2, d := c.3, dp := c.4, st := c.5, fi := c.6, nx := c.7, un := c.9, se := c.9, off := IntKind.i64.wrap (c.10 + c.11), lo := (0 : Int), si := c.12, ag := c.13 } : Cal).v,
 V.rows Sh.bytes
 (akF
 { s := c.1, sp := c.2, d := c.3, dp := c.4, st := c.5, fi := c.6, nx := c.7, un := c.9, se := c.9, off := IntKind.i64.wrap (c.10 + c.11), lo := (0 : Int), si := c.12, ag := c.13 })])
 else none
 else
 some
 (V.tup
 [({ s := c.1, sp := c.2, d := c.3, dp := c.4, st := c.5, fi := c.6, nx := c.7, un := c.9, se := c.9, off := IntKind.i64.wrap (c.10 + c.11), lo := (0 : Int), si := c.12, ag := c.13 } : Cal).v,
 V.rows Sh.bytes []])
 else
 some
 (V.tup
 [({ s := c.1, sp := c.2, d := c.3, dp := c.4, st := c.5, fi := c.6, nx := c.7, un := c.9, se := c.9, off := IntKind.i64.wrap (c.10 + c.11), lo := (0 : Int), si := c.12, ag := c.13 } : Cal).v,
 V.rows Sh.bytes []])
 else
 bif bits BinOp.and IntKind.i64 fl (1 : Int) != (0 : Int) then
 bif sq == IntKind.u32.wrap (c.7 - (1 : Int)) then
 bif
 andT true
 (decide
 (((0 : Int) ≤ c.7 ∧ c.7 ≤ (4294967295 : Int)) ∧
 ((0 : Int) ≤ c.9 ∧ c.9 ≤ (4294967295 : Int)) ∧
 (0 : Int) ≤ c.9 ∧ c.9 ≤ (4294967295 : Int))) &&
 true then
 some
 (V.tup
 [({ s := c.1, sp := c.2, d := c.3, dp := c.4, st := c.5, fi := c.6, nx := c.7, un := c.9, se := c.9, off := IntKind.i64.wrap (c.10 + c.11), lo := (0 : Int), si := c.12, ag := c.13 } : Cal).v,
 V.rows Sh.bytes
 (akF
 { s := c.1, sp := c.2, d := c.3, dp := c.4, st := c.5, fi := c.6, nx := c.7, un := c.9, se := c.9, off := IntKind.i64.wrap (c.10 + c.11), lo := (0 : Int), si := c.12, ag := c.13 })])
 else none
 else
 some
 (V.tup
 [({ s := c.1, sp := c.2, d := c.3, dp := c.4, st := c.5, fi := c.6, nx := c.7, un := c.9, se := c.9, off := IntKind.i64.wrap (c.10 + c.11), lo := (0 : Int), si := c.12, ag := c.13 } : Cal).v,
 V.rows Sh.bytes []])
 else
 some
 (V.tup
 [({ s := c.1, sp := c.2, d := c.3, dp := c.4, st := c.5, fi := c.6, nx := c.7, un := c.9, se := c.9, off := IntKind.i64.wrap (c.10 + c.11), lo := (0 : Int), si := c.12, ag := c.13 } : Cal).v,
 V.rows Sh.bytes []])
 else
 bif bits BinOp.and IntKind.i64 fl (1 : Int) != (0 : Int) then
 bif sq == c.7 then
 bif bits BinOp.and IntKind.i64 fl (1 : Int) != (0 : Int) then
 bif sq == IntKind.u32.wrap (IntKind.u32.wrap (c.7 + (1 : Int)) - (1 : Int)) then
 bif
 andT true
 (decide
 (((0 : Int) ≤ IntKind.u32.wrap (c.7 + (1 : Int)) ∧
 IntKind.u32.wrap (c.7 + (1 : Int)) ≤ (4294967295 : Int)) ∧
 ((0 : Int) ≤ c.8 ∧ c.8 ≤ (4294967295 : Int)) ∧
 (0 : Int) ≤ c.9 ∧ c.9 ≤ (4294967295 : Int))) &&
 true then
 some
 (V.tup
 [({ s := c.1, sp := c.2, d := c.3, dp := c.4, st := (4 : Int), fi := c.6, nx := IntKind.u32.wrap (c.7 + (1 : Int)), un := c.8, se := c.9, off := c.10, lo := c.11, si := c.12, ag := c.13 } : Cal).v,
 V.rows Sh.bytes
 (akF
 { s := c.1, sp := c.2, d := c.3, dp := c.4, st := (4 : Int), fi := c.6, nx := IntKind.u32.wrap (c.7 + (1 : Int)), un := c.8, se := c.9, off := c.10, lo := c.11, si := c.12, ag := c.13 })])
 else none
 else
 some
 (V.tup
 [({ s := c.1, sp := c.2, d := c.3, dp := c.4, st := (4 : Int), fi := c.6, nx := IntKind.u32.wrap (c.7 + (1 : Int)), un := c.8, se := c.9, off := c.10, lo := c.11, si := c.12, ag := c.13 } : Cal).v,
 V.rows Sh.bytes []])
 else
 some
 (V.tup
 [({ s := c.1, sp := c.2, d := c.3, dp := c.4, st := (4 : Int), fi := c.6, nx := IntKind.u32.wrap (c.7 + (1 : Int)), un := c.8, se := c.9, off := c.10, lo := c.11, si := c.12, ag := c.13 } : Cal).v,
 V.rows Sh.bytes []])
 else
 bif bits BinOp.and IntKind.i64 fl (1 : Int) != (0 : Int) then
 bif sq == IntKind.u32.wrap (c.7 - (1 : Int)) then
 bif
 andT true
 (decide
 (((0 : Int) ≤ c.7 ∧ c.7 ≤ (4294967295 : Int)) ∧
 ((0 : Int) ≤ c.8 ∧ c.8 ≤ (4294967295 : Int)) ∧
 (0 : Int) ≤ c.9 ∧ c.9 ≤ (4294967295 : Int))) &&
 true then
 some
 (V.tup
 [c.v,
 V.rows Sh.bytes
 (akF
 { s := c.1, sp := c.2, d := c.3, dp := c.4, st := c.5, fi := c.6, nx := c.7, un := c.8, se := c.9, off := c.10, lo := c.11, si := c.12, ag := c.13 })])
 else none
 else some (V.tup [c.v, V.rows Sh.bytes []])
 else some (V.tup [c.v, V.rows Sh.bytes []])
 else
 bif bits BinOp.and IntKind.i64 fl (1 : Int) != (0 : Int) then
 bif sq == IntKind.u32.wrap (c.7 - (1 : Int)) then
 bif
 andT true
 (decide
 (((0 : Int) ≤ c.7 ∧ c.7 ≤ (4294967295 : Int)) ∧
 ((0 : Int) ≤ c.8 ∧ c.8 ≤ (4294967295 : Int)) ∧
 (0 : Int) ≤ c.9 ∧ c.9 ≤ (4294967295 : Int))) &&
 true then
 some
 (V.tup
 [c.v,
 V.rows Sh.bytes
 (akF
 { s := c.1, sp := c.2, d := c.3, dp := c.4, st := c.5, fi := c.6, nx := c.7, un := c.8, se := c.9, off := c.10, lo := c.11, si := c.12, ag := c.13 })])
 else none
 else some (V.tup [c.v, V.rows Sh.bytes []])
 else some (V.tup [c.v, V.rows Sh.bytes []])
 else
 bif bits BinOp.and IntKind.i64 fl (1 : Int) != (0 : Int) then
 bif sq == c.7 then
 bif bits BinOp.and IntKind.i64 fl (1 : Int) != (0 : Int) then
 bif sq == IntKind.u32.wrap (IntKind.u32.wrap (c.7 + (1 : Int)) - (1 : Int)) then
 bif
 andT true
 (decide
 (((0 : Int) ≤ IntKind.u32.wrap (c.7 + (1 : Int)) ∧
 IntKind.u32.wrap (c.7 + (1 : Int)) ≤ (4294967295 : Int)) ∧
 ((0 : Int) ≤ c.8 ∧ c.8 ≤ (4294967295 : Int)) ∧
 (0 : Int) ≤ c.9 ∧ c.9 ≤ (4294967295 : Int))) &&
 true then
 some
 (V.tup
 [({ s := c.1, sp := c.2, d := c.3, dp := c.4, st := (4 : Int), fi := c.6, nx := IntKind.u32.wrap (c.7 + (1 : Int)), un := c.8, se := c.9, off := c.10, lo := c.11, si := c.12, ag := c.13 } : Cal).v,
 V.rows Sh.bytes
 (akF
 { s := c.1, sp := c.2, d := c.3, dp := c.4, st := (4 : Int), fi := c.6, nx := IntKind.u32.wrap (c.7 + (1 : Int)), un := c.8, se := c.9, off := c.10, lo := c.11, si := c.12, ag := c.13 })])
 else none
 else
 some
 (V.tup
 [({ s := c.1, sp := c.2, d := c.3, dp := c.4, st := (4 : Int), fi := c.6, nx := IntKind.u32.wrap (c.7 + (1 : Int)), un := c.8, se := c.9, off := c.10, lo := c.11, si := c.12, ag := c.13 } : Cal).v,
 V.rows Sh.bytes []])
 else
 some
 (V.tup
 [({ s := c.1, sp := c.2, d := c.3, dp := c.4, st := (4 : Int), fi := c.6, nx := IntKind.u32.wrap (c.7 + (1 : Int)), un := c.8, se := c.9, off := c.10, lo := c.11, si := c.12, ag := c.13 } : Cal).v,
 V.rows Sh.bytes []])
 else
 bif bits BinOp.and IntKind.i64 fl (1 : Int) != (0 : Int) then
 bif sq == IntKind.u32.wrap (c.7 - (1 : Int)) then
 bif
 andT true
 (decide
 (((0 : Int) ≤ c.7 ∧ c.7 ≤ (4294967295 : Int)) ∧
 ((0 : Int) ≤ c.8 ∧ c.8 ≤ (4294967295 : Int)) ∧
 (0 : Int) ≤ c.9 ∧ c.9 ≤ (4294967295 : Int))) &&
 true then
 some
 (V.tup
 [c.v,
 V.rows Sh.bytes
 (akF
 { s := c.1, sp := c.2, d := c.3, dp := c.4, st := c.5, fi := c.6, nx := c.7, un := c.8, se := c.9, off := c.10, lo := c.11, si := c.12, ag := c.13 })])
 else none
 else some (V.tup [c.v, V.rows Sh.bytes []])
 else some (V.tup [c.v, V.rows Sh.bytes []])
 else
 bif bits BinOp.and IntKind.i64 fl (1 : Int) != (0 : Int) then
 bif sq == IntKind.u32.wrap (c.7 - (1 : Int)) then
 bif
 andT true
 (decide
 (((0 : Int) ≤ c.7 ∧ c.7 ≤ (4294967295 : Int)) ∧
 ((0 : Int) ≤ c.8 ∧ c.8 ≤ (4294967295 : Int)) ∧
 (0 : Int) ≤ c.9 ∧ c.9 ≤ (4294967295 : Int))) &&
 true then
 some
 (V.tup
 [c.v,
 V.rows Sh.bytes
 (akF
 { s := c.1, sp := c.2, d := c.3, dp := c.4, st := c.5, fi := c.6, nx := c.7, un := c.8, se := c.9, off := c.10, lo := c.11, si := c.12, ag := c.13 })])
 else none
 else some (V.tup [c.v, V.rows Sh.bytes []])
 else some (V.tup [c.v, V.rows Sh.bytes []])
 else
 bif c.5 == (3 : Int) then
 bif bits BinOp.and IntKind.i64 fl (4 : Int) != (0 : Int) then
 bif sq == c.7 then
 some
 (V.tup
 [({ s := c.1, sp := c.2, d := c.3, dp := c.4, st := (5 : Int), fi := c.6, nx := c.7, un := c.8, se := c.9, off := c.10, lo := c.11, si := c.12, ag := c.13 } : Cal).v,
 V.rows Sh.bytes []])
 else some (V.tup [c.v, V.rows Sh.bytes []])
 else
 bif !bits BinOp.and IntKind.i64 fl (16 : Int) != (0 : Int) then some (V.tup [c.v, V.rows Sh.bytes []])
 else
 bif bits BinOp.and IntKind.i64 fl (2 : Int) != (0 : Int) then
 bif
 andT true
 (decide
 (((0 : Int) ≤ c.7 ∧ c.7 ≤ (4294967295 : Int)) ∧
 ((0 : Int) ≤ c.8 ∧ c.8 ≤ (4294967295 : Int)) ∧ (0 : Int) ≤ c.9 ∧ c.9 ≤ (4294967295 : Int))) &&
 true then
 some
 (V.tup
 [c.v,
 V.rows Sh.bytes
 (akF
 { s := c.1, sp := c.2, d := c.3, dp := c.4, st := c.5, fi := c.6, nx := c.7, un := c.8, se := c.9, off := c.10, lo := c.11, si := c.12, ag := c.13 })])
 else none
 else
 bif c.8 != c.9 then
 bif ak == c.9 then
 bif bits BinOp.and IntKind.i64 fl (1 : Int) != (0 : Int) then
 bif sq == c.7 then
 bif bits BinOp.and IntKind.i64 fl (1 : Int) != (0 : Int) then
 bif sq == IntKind.u32.wrap (IntKind.u32.wrap (c.7 + (1 : Int)) - (1 : Int)) then
 bif
 andT true
 (decide
 (((0 : Int) ≤ IntKind.u32.wrap (c.7 + (1 : Int)) ∧
 IntKind.u32.wrap (c.7 + (1 : Int)) ≤ (4294967295 : Int)) ∧
 ((0 : Int) ≤ c.9 ∧ c.9 ≤ (4294967295 : Int)) ∧
 (0 : Int) ≤ c.9 ∧ c.9 ≤ (4294967295 : Int))) &&
 true then
 some
 (V.tup
 [({ s := c.1, sp := c.2, d := c.3, dp := c.4, st := (4 : Int), fi := c.6, nx := IntKind.u32.wrap (c.7 + (1 : Int)), un := c.9, se := c.9, off := IntKind.i64.wrap (c.10 + c.11), lo := (0 : Int), si := c.12, ag := c.13 } : Cal).v,
 V.rows Sh.bytes
 (akF
 { s := c.1, sp := c.2, d := c.3, dp := c.4, st := (4 : Int), fi := c.6, nx := IntKind.u32.wrap (c.7 + (1 : Int)), un := c.9, se := c.9, off := IntKind.i64.wrap (c.10 + c.11), lo := (0 : Int), si := c.12, ag := c.13 })])
 else none
 else
 some
 (V.tup
 [({ s := c.1, sp := c.2, d := c.3, dp := c.4, st := (4 : Int), fi := c.6, nx := IntKind.u32.wrap (c.7 + (1 : Int)), un := c.9, se := c.9, off := IntKind.i64.wrap (c.10 + c.11), lo := (0 : Int), si := c.12, ag := c.13 } : Cal).v,
 V.rows Sh.bytes []])
 else
 some
 (V.tup
 [({ s := c.1, sp := c.2, d := c.3, dp := c.4, st := (4 : Int), fi := c.6, nx := IntKind.u32.wrap (c.7 + (1 : Int)), un := c.9, se := c.9, off := IntKind.i64.wrap (c.10 + c.11), lo := (0 : Int), si := c.12, ag := c.13 } : Cal).v,
 V.rows Sh.bytes []])
 else
 bif bits BinOp.and IntKind.i64 fl (1 : Int) != (0 : Int) then
 bif sq == IntKind.u32.wrap (c.7 - (1 : Int)) then
 bif
 andT true
 (decide
 (((0 : Int) ≤ c.7 ∧ c.7 ≤ (4294967295 : Int)) ∧
 ((0 : Int) ≤ c.9 ∧ c.9 ≤ (4294967295 : Int)) ∧
 (0 : Int) ≤ c.9 ∧ c.9 ≤ (4294967295 : Int))) &&
 true then
 some
 (V.tup
 [({ s := c.1, sp := c.2, d := c.3, dp := c.4, st := c.5, fi := c.6, nx := c.7, un := c.9, se := c.9, off := IntKind.i64.wrap (c.10 + c.11), lo := (0 : Int), si := c.12, ag := c.13 } : Cal).v,
 V.rows Sh.bytes
 (akF
 { s := c.1, sp := c.2, d := c.3, dp := c.4, st := c.5, fi := c.6, nx := c.7, un := c.9, se := c.9, off := IntKind.i64.wrap (c.10 + c.11), lo := (0 : Int), si := c.12, ag := c.13 })])
 else none
 else
 some
 (V.tup
 [({ s := c.1, sp := c.2, d := c.3, dp := c.4, st := c.5, fi := c.6, nx := c.7, un := c.9, se := c.9, off := IntKind.i64.wrap (c.10 + c.11), lo := (0 : Int), si := c.12, ag := c.13 } : Cal).v,
 V.rows Sh.bytes []])
 else
 some
 (V.tup
 [({ s := c.1, sp := c.2, d := c.3, dp := c.4, st := c.5, fi := c.6, nx := c.7, un := c.9, se := c.9, off := IntKind.i64.wrap (c.10 + c.11), lo := (0 : Int), si := c.12, ag := c.13 } : Cal).v,
 V.rows Sh.bytes []])
 else
 bif bits BinOp.and IntKind.i64 fl (1 : Int) != (0 : Int) then
 bif sq == IntKind.u32.wrap (c.7 - (1 : Int)) then
 bif
 andT true
 (decide
 (((0 : Int) ≤ c.7 ∧ c.7 ≤ (4294967295 : Int)) ∧
 ((0 : Int) ≤ c.9 ∧ c.9 ≤ (4294967295 : Int)) ∧
 (0 : Int) ≤ c.9 ∧ c.9 ≤ (4294967295 : Int))) &&
 true then
 some
 (V.tup
 [({ s := c.1, sp := c.2, d := c.3, dp := c.4, st := c.5, fi := c.6, nx := c.7, un := c.9, se := c.9, off := IntKind.i64.wrap (c.10 + c.11), lo := (0 : Int), si := c.12, ag := c.13 } : Cal).v,
 V.rows Sh.bytes
 (akF
 { s := c.1, sp := c.2, d := c.3, dp := c.4, st := c.5, fi := c.6, nx := c.7, un := c.9, se := c.9, off := IntKind.i64.wrap (c.10 + c.11), lo := (0 : Int), si := c.12, ag := c.13 })])
 else none
 else
 some
 (V.tup
 [({ s := c.1, sp := c.2, d := c.3, dp := c.4, st := c.5, fi := c.6, nx := c.7, un := c.9, se := c.9, off := IntKind.i64.wrap (c.10 + c.11), lo := (0 : Int), si := c.12, ag := c.13 } : Cal).v,
 V.rows Sh.bytes []])
 else
 some
 (V.tup
 [({ s := c.1, sp := c.2, d := c.3, dp := c.4, st := c.5, fi := c.6, nx := c.7, un := c.9, se := c.9, off := IntKind.i64.wrap (c.10 + c.11), lo := (0 : Int), si := c.12, ag := c.13 } : Cal).v,
 V.rows Sh.bytes []])
 else
 bif bits BinOp.and IntKind.i64 fl (1 : Int) != (0 : Int) then
 bif sq == c.7 then
 bif bits BinOp.and IntKind.i64 fl (1 : Int) != (0 : Int) then
 bif sq == IntKind.u32.wrap (IntKind.u32.wrap (c.7 + (1 : Int)) - (1 : Int)) then
 bif
 andT true
 (decide
 (((0 : Int) ≤ IntKind.u32.wrap (c.7 + (1 : Int)) ∧
 IntKind.u32.wrap (c.7 + (1 : Int)) ≤ (4294967295 : Int)) ∧
 ((0 : Int) ≤ c.8 ∧ c.8 ≤ (4294967295 : Int)) ∧
 (0 : Int) ≤ c.9 ∧ c.9 ≤ (4294967295 : Int))) &&
 true then
 some
 (V.tup
 [({ s := c.1, sp := c.2, d := c.3, dp := c.4, st := (4 : Int), fi := c.6, nx := IntKind.u32.wrap (c.7 + (1 : Int)), un := c.8, se := c.9, off := c.10, lo := c.11, si := c.12, ag := c.13 } : Cal).v,
 V.rows Sh.bytes
 (akF
 { s := c.1, sp := c.2, d := c.3, dp := c.4, st := (4 : Int), fi := c.6, nx := IntKind.u32.wrap (c.7 + (1 : Int)), un := c.8, se := c.9, off := c.10, lo := c.11, si := c.12, ag := c.13 })])
 else none
 else
 some
 (V.tup
 [({ s := c.1, sp := c.2, d := c.3, dp := c.4, st := (4 : Int), fi := c.6, nx := IntKind.u32.wrap (c.7 + (1 : Int)), un := c.8, se := c.9, off := c.10, lo := c.11, si := c.12, ag := c.13 } : Cal).v,
 V.rows Sh.bytes []])
 else
 some
 (V.tup
 [({ s := c.1, sp := c.2, d := c.3, dp := c.4, st := (4 : Int), fi := c.6, nx := IntKind.u32.wrap (c.7 + (1 : Int)), un := c.8, se := c.9, off := c.10, lo := c.11, si := c.12, ag := c.13 } : Cal).v,
 V.rows Sh.bytes []])
 else
 bif bits BinOp.and IntKind.i64 fl (1 : Int) != (0 : Int) then
 bif sq == IntKind.u32.wrap (c.7 - (1 : Int)) then
 bif
 andT true
 (decide
 (((0 : Int) ≤ c.7 ∧ c.7 ≤ (4294967295 : Int)) ∧
 ((0 : Int) ≤ c.8 ∧ c.8 ≤ (4294967295 : Int)) ∧
 (0 : Int) ≤ c.9 ∧ c.9 ≤ (4294967295 : Int))) &&
 true then
 some
 (V.tup
 [c.v,
 V.rows Sh.bytes
 (akF
 { s := c.1, sp := c.2, d := c.3, dp := c.4, st := c.5, fi := c.6, nx := c.7, un := c.8, se := c.9, off := c.10, lo := c.11, si := c.12, ag := c.13 })])
 else none
 else some (V.tup [c.v, V.rows Sh.bytes []])
 else some (V.tup [c.v, V.rows Sh.bytes []])
 else
 bif bits BinOp.and IntKind.i64 fl (1 : Int) != (0 : Int) then
 bif sq == IntKind.u32.wrap (c.7 - (1 : Int)) then
 bif
 andT true
 (decide
 (((0 : Int) ≤ c.7 ∧ c.7 ≤ (4294967295 : Int)) ∧
 ((0 : Int) ≤ c.8 ∧ c.8 ≤ (4294967295 : Int)) ∧
 (0 : Int) ≤ c.9 ∧ c.9 ≤ (4294967295 : Int))) &&
 true then
 some
 (V.tup
 [c.v,
 V.rows Sh.bytes
 (akF
 { s := c.1, sp := c.2, d := c.3, dp := c.4, st := c.5, fi := c.6, nx := c.7, un := c.8, se := c.9, off := c.10, lo := c.11, si := c.12, ag := c.13 })])
 else none
 else some (V.tup [c.v, V.rows Sh.bytes []])
 else some (V.tup [c.v, V.rows Sh.bytes []])
 else
 bif bits BinOp.and IntKind.i64 fl (1 : Int) != (0 : Int) then
 bif sq == c.7 then
 bif bits BinOp.and IntKind.i64 fl (1 : Int) != (0 : Int) then
 bif sq == IntKind.u32.wrap (IntKind.u32.wrap (c.7 + (1 : Int)) - (1 : Int)) then
 bif
 andT true
 (decide
 (((0 : Int) ≤ IntKind.u32.wrap (c.7 + (1 : Int)) ∧
 IntKind.u32.wrap (c.7 + (1 : Int)) ≤ (4294967295 : Int)) ∧
 ((0 : Int) ≤ c.8 ∧ c.8 ≤ (4294967295 : Int)) ∧
 (0 : Int) ≤ c.9 ∧ c.9 ≤ (4294967295 : Int))) &&
 true then
 some
 (V.tup
 [({ s := c.1, sp := c.2, d := c.3, dp := c.4, st := (4 : Int), fi := c.6, nx := IntKind.u32.wrap (c.7 + (1 : Int)), un := c.8, se := c.9, off := c.10, lo := c.11, si := c.12, ag := c.13 } : Cal).v,
 V.rows Sh.bytes
 (akF
 { s := c.1, sp := c.2, d := c.3, dp := c.4, st := (4 : Int), fi := c.6, nx := IntKind.u32.wrap (c.7 + (1 : Int)), un := c.8, se := c.9, off := c.10, lo := c.11, si := c.12, ag := c.13 })])
 else none
 else
 some
 (V.tup
 [({ s := c.1, sp := c.2, d := c.3, dp := c.4, st := (4 : Int), fi := c.6, nx := IntKind.u32.wrap (c.7 + (1 : Int)), un := c.8, se := c.9, off := c.10, lo := c.11, si := c.12, ag := c.13 } : Cal).v,
 V.rows Sh.bytes []])
 else
 some
 (V.tup
 [({ s := c.1, sp := c.2, d := c.3, dp := c.4, st := (4 : Int), fi := c.6, nx := IntKind.u32.wrap (c.7 + (1 : Int)), un := c.8, se := c.9, off := c.10, lo := c.11, si := c.12, ag := c.13 } : Cal).v,
 V.rows Sh.bytes []])
 else
 bif bits BinOp.and IntKind.i64 fl (1 : Int) != (0 : Int) then
 bif sq == IntKind.u32.wrap (c.7 - (1 : Int)) then
 bif
 andT true
 (decide
 (((0 : Int) ≤ c.7 ∧ c.7 ≤ (4294967295 : Int)) ∧
 ((0 : Int) ≤ c.8 ∧ c.8 ≤ (4294967295 : Int)) ∧
 (0 : Int) ≤ c.9 ∧ c.9 ≤ (4294967295 : Int))) &&
 true then
 some
 (V.tup
 [c.v,
 V.rows Sh.bytes
 (akF
 { s := c.1, sp := c.2, d := c.3, dp := c.4, st := c.5, fi := c.6, nx := c.7, un := c.8, se := c.9, off := c.10, lo := c.11, si := c.12, ag := c.13 })])
 else none
 else some (V.tup [c.v, V.rows Sh.bytes []])
 else some (V.tup [c.v, V.rows Sh.bytes []])
 else
 bif bits BinOp.and IntKind.i64 fl (1 : Int) != (0 : Int) then
 bif sq == IntKind.u32.wrap (c.7 - (1 : Int)) then
 bif
 andT true
 (decide
 (((0 : Int) ≤ c.7 ∧ c.7 ≤ (4294967295 : Int)) ∧
 ((0 : Int) ≤ c.8 ∧ c.8 ≤ (4294967295 : Int)) ∧
 (0 : Int) ≤ c.9 ∧ c.9 ≤ (4294967295 : Int))) &&
 true then
 some
 (V.tup
 [c.v,
 V.rows Sh.bytes
 (akF
 { s := c.1, sp := c.2, d := c.3, dp := c.4, st := c.5, fi := c.6, nx := c.7, un := c.8, se := c.9, off := c.10, lo := c.11, si := c.12, ag := c.13 })])
 else none
 else some (V.tup [c.v, V.rows Sh.bytes []])
 else some (V.tup [c.v, V.rows Sh.bytes []])
 else
 bif c.5 == (4 : Int) then
 bif bits BinOp.and IntKind.i64 fl (1 : Int) != (0 : Int) then
 bif bits BinOp.and IntKind.i64 fl (16 : Int) != (0 : Int) then
 bif !bits BinOp.and IntKind.i64 fl (2 : Int) != (0 : Int) then
 bif !bits BinOp.and IntKind.i64 fl (4 : Int) != (0 : Int) then
 bif sq == IntKind.u32.wrap (c.7 - (1 : Int)) then
 bif
 andT true
 (decide
 (((0 : Int) ≤ c.7 ∧ c.7 ≤ (4294967295 : Int)) ∧
 ((0 : Int) ≤ c.8 ∧ c.8 ≤ (4294967295 : Int)) ∧
 (0 : Int) ≤ c.9 ∧ c.9 ≤ (4294967295 : Int))) &&
 true then
 some
 (V.tup
 [c.v,
 V.rows Sh.bytes
 (akF
 { s := c.1, sp := c.2, d := c.3, dp := c.4, st := c.5, fi := c.6, nx := c.7, un := c.8, se := c.9, off := c.10, lo := c.11, si := c.12, ag := c.13 })])
 else none
 else some (V.tup [c.v, V.rows Sh.bytes []])
 else some (V.tup [c.v, V.rows Sh.bytes []])
 else some (V.tup [c.v, V.rows Sh.bytes []])
 else some (V.tup [c.v, V.rows Sh.bytes []])
 else some (V.tup [c.v, V.rows Sh.bytes []])
 else some (V.tup [c.v, V.rows Sh.bytes []]) := by kernel_rfl
def tkD1 (c : Cal) (ak : Int) : Cal := if c.un = c.se then c else if ak = c.se then { c with un := c.se, off := IntKind.i64.wrap (c.off + c.lo), lo := 0 } else c
def tkD2 (c : Cal) (b1 : Bool) (sq : Int) : Cal := if b1 = true then if sq = c.nx then { c with nx := IntKind.u32.wrap (c.nx + 1), st := 4 } else c else c
def tkD3 (c : Cal) (b1 : Bool) (sq : Int) : Cal × List V := if b1 = true then if sq = IntKind.u32.wrap (c.nx - 1) then (c, akF c) else (c, []) else (c, [])
def takB (c : Cal) (b16 b4 b2 b1 : Bool) (sq ak : Int) : Cal × List V :=
 if c.st = 1 then
  if b16 = true then
   if ak = c.se then
    if b4 = true then ({ c with st := 5 }, [])
    else if b2 = true then ({ c with nx := IntKind.u32.wrap (sq + 1), un := c.se, st := 2 }, akF { c with nx := IntKind.u32.wrap (sq + 1), un := c.se, st := 2 })
    else (c, [])
   else (c, [])
  else (c, [])
 else if c.st = 2 ∨ c.st = 3 then
  if b4 = true then (if sq = c.nx then ({ c with st := 5 }, []) else (c, []))
  else if b16 = true then
   if b2 = true then (c, akF c)
   else tkD3 (tkD2 (tkD1 c ak) b1 sq) b1 sq
  else (c, [])
 else if c.st = 4 then
  if b1 = true then
   if b16 = true then
    if b2 = true then (c, []) else if b4 = true then (c, []) else if sq = IntKind.u32.wrap (c.nx - 1) then (c, akF c) else (c, [])
   else (c, [])
  else (c, [])
 else (c, [])
def bitF (fl k : Int) : Bool := bits .and .i64 fl k != 0
def takF (c : Cal) (fl sq ak : Int) : Cal × List V := takB c (bitF fl 16) (bitF fl 4) (bitF fl 2) (bitF fl 1) sq ak
theorem u32w (x : Int) : 0 ≤ IntKind.u32.wrap x ∧ IntKind.u32.wrap x ≤ 4294967295 := by
 simp [IntKind.wrap, IntKind.signed, IntKind.bits]; omega
set_option maxRecDepth 8000 in
set_option maxHeartbeats 4000000 in
theorem rClTakes_v (c : Cal) (h : cOk c) (sp dp sq ak fl wn sm ug : Int) (op : List V) (pl : List UInt8) : callV Ecld af_rClTakes [c.v, .agg [.int .i64 sp, .int .i64 dp, .int .u32 sq, .int .u32 ak, .int .i64 fl, .int .i64 wn, .int .i64 sm, .int .i64 ug, .rows (.agg [.int .i64, .bytes]) op, .bytes pl]] =
  some (.tup [(takF c fl sq ak).1.v, .rows .bytes (takF c fl sq ak).2]) := by
 obtain ⟨⟨h1, h2⟩, ⟨h3, h4⟩, h5, h6⟩ := h
 have w1 := u32w (sq + 1)
 have w2 := u32w (c.nx + 1)
 rw [rClTakes_t]
 unfold takF bitF
 generalize (bits .and .i64 fl 16 != 0) = b16
 generalize (bits .and .i64 fl 4 != 0) = b4
 generalize (bits .and .i64 fl 2 != 0) = b2
 generalize (bits .and .i64 fl 1 != 0) = b1
 have key : c.st = 1 ∨ c.st = 2 ∨ c.st = 3 ∨ c.st = 4 ∨ (c.st ≠ 1 ∧ c.st ≠ 2 ∧ c.st ≠ 3 ∧ c.st ≠ 4) := by omega
 unfold takB
 rcases key with h | h | h | h | ⟨g1, g2, g3, g4⟩
 ·rw [if_pos h]
  cases b16 <;> cases b4 <;> cases b2
  all_goals
   simp only [cond_true, cond_false, if_true, reduceCtorEq, if_false]
  all_goals
   repeat' split
  all_goals
   simp (disch := omega) only [tre]
 ·rw [if_neg (by omega), if_pos (by omega)]
  cases b4 <;> cases b16 <;> cases b2 <;> cases b1
  all_goals
   unfold tkD3 tkD2 tkD1
   simp only [cond_true, cond_false, if_true, reduceCtorEq, if_false, Bool.not_true, Bool.not_false]
  all_goals
   repeat' split
  all_goals
   try dsimp only at *
  all_goals
   simp (disch := omega) only [tre]
 ·rw [if_neg (by omega), if_pos (by omega)]
  cases b4 <;> cases b16 <;> cases b2 <;> cases b1
  all_goals
   unfold tkD3 tkD2 tkD1
   simp only [cond_true, cond_false, if_true, reduceCtorEq, if_false, Bool.not_true, Bool.not_false]
  all_goals
   repeat' split
  all_goals
   try dsimp only at *
  all_goals
   simp (disch := omega) only [tre]
 ·rw [if_neg (by omega), if_neg (by omega), if_pos h]
  cases b4 <;> cases b16 <;> cases b2 <;> cases b1
  all_goals
   simp only [cond_true, cond_false, if_true, reduceCtorEq, if_false, Bool.not_true, Bool.not_false]
  all_goals
   repeat' split
  all_goals
   simp (disch := omega) only [tre]
 ·rw [if_neg g1, if_neg (by omega), if_neg g4]
  simp (disch := omega) only [tre]
end Go.Proofs.YtfhljcbbgckdiaaGreat