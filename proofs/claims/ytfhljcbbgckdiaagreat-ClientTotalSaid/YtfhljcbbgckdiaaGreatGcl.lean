/- Part Gcl of the proof: laws used by the law of this claim. -/
import Derived.Test.YtfhljcbbgckdiaaGreatGky
import Derived.Test.YtfhljcbbgckdiaaGreatGv
import Derived.Test.YtfhljcbbgckdiaaGreatGz
set_option linter.all false
namespace Go.Proofs.YtfhljcbbgckdiaaGreat
open Go Go.Am Go.RowKit Go.Bas
set_option maxRecDepth 100000
def mx0 (f : Int) : Int := if (0 : Int) > f then 0 else f
def mnS (n : Int) : Int := if (100 : Int) < mx0 n then 100 else mx0 n
theorem mx0_lo (f : Int) : 0 ≤ mx0 f := by unfold mx0; split <;> omega
theorem mnS_lo (n : Int) : 0 ≤ mnS n := by have := mx0_lo n; unfold mnS; split <;> omega
theorem mnS_hi (n : Int) : mnS n ≤ 100 := by unfold mnS; split <;> omega
def stU (f i : Int) : UInt8 := u8 ((31 * (f + i) + 7) % 256)
def stL (f : Int) : Nat → List UInt8
 | 0 => []
 | n + 1 => stL f n ++ [stU f n]
theorem stL_len (f : Int) : ∀ n, (stL f n).length = n
 | 0 => rfl
 | n + 1 => by rw [stL, List.length_append, stL_len f n]; rfl
def stE (f i : Int) : Int := IntKind.u8.wrap (IntKind.u8.wrap (IntKind.u8.wrap (IntKind.i64.wrap (f + i)) * 31) + 7)
theorem stE_eq (f i : Int) : u8 (stE f i) = stU f i := by
 unfold stE stU
 have h : ∀ y : Int, IntKind.u8.wrap y = y % 256 := fun y => by simp [IntKind.wrap, IntKind.signed, IntKind.bits]
 rw [h, h, h, IntKind.wrap_i64]
 congr 1
 omega
structure StI where
 (f : Int)
 (n : Nat)
 (l : List UInt8)
 (i : Int)
def stS (f : Int) (n : Nat) (l : List UInt8) (i : Int) : S := ⟨[(0, .int .i64 f), (5, .own 0 n (.int .u8)), (15, .int .i64 n), (16, .int .i64 i)], [(0, some (.row 5 (.int .u8) (.bytes l)))], 1, true, 30⟩
def stX (n : Nat) (l : List UInt8) : S := ⟨[(5, .own 0 n (.int .u8))], [(0, some (.row 5 (.int .u8) (.bytes l)))], 1, true, 30⟩
def stGet (s : S) : StI := ⟨toI (lkD s 0), (toI (lkD s 15)).toNat, toL (bkD s 0), toI (lkD s 16)⟩
def stI (x : StI) : Prop := 0 ≤ x.i ∧ x.i ≤ x.n ∧ x.n ≤ 100 ∧ x.l = stL x.f x.i.toNat ++ List.replicate (x.n - x.i.toNat) 0
noncomputable def stG : S → Option (Bool × Tr) := gX stGet (fun x => stS x.f x.n x.l x.i) stI (fun x => .leaf (.exit 0) (stX x.n (stL x.f x.n)))
noncomputable def af_clStream : AF := afOf Tryz.prog Tryz.f20 [.sum [0, 5, 15, 16] [] stG]
noncomputable def GEcla : List (Nat × Con) := []
theorem GEcla_ok : GOk Tryz.prog GEcla := .nil
noncomputable def IEcla : List (Nat × AF) := []
theorem IEcla_ok : IOk Tryz.prog IEcla := .nil
noncomputable def CEcla : List (Nat × (List Nat × (S → Option (Bool × Tr)))) := []
theorem CEcla_ok : COk Tryz.prog CEcla := .nil
noncomputable def XEcla : List (Nat × (List Sh × (List V → PT))) := []
theorem XEcla_ok : XOk Tryz.prog XEcla := .nil
noncomputable def Ecla : Env := ⟨Tryz.prog, GEcla, IEcla, CEcla, XEcla, false⟩
theorem Ecla_ok : EnvOk Ecla := ⟨by kernel_rfl, GEcla_ok, IEcla_ok, CEcla_ok, XEcla_ok⟩
noncomputable def stC : AC := (af_clStream.ac.sums.headD (.skip, [], [], fun _ => none)).1
theorem st_b (f : Int) (n : Nat) (l : List UInt8) (i : Int) : aev Ecla (inlN Ecla 6) stC (bodyF (Am.ways [0, 5, 15, 16] [5] []) []) (stS f n l i) =
 bif decide (i < (n : Int)) then bif andT true (Am.inB i n) then some (.normal, stS f n (l.set i.toNat (u8 (stE f i))) (IntKind.i64.wrap (i + 1))) else none
 else some (.exit 0, stX n l) := by kernel_rfl
theorem st_set {f : Int} {n k : Nat} (hk : k < n) : (stL f k ++ List.replicate (n - k) 0).set k (stU f k) = stL f (k + 1) ++ List.replicate (n - (k + 1)) 0 := by
 rw [List.set_append_right _ _ (by rw [stL_len]; omega), stL_len, Nat.sub_self, show n - k = n - (k + 1) + 1 by omega, List.replicate_succ, List.set_cons_zero, stL, List.append_assoc]
 rfl
theorem st_loop : LoopOk Tryz.prog stC.erase [] stG := by
 refine loopX_ok Ecla_ok (d := 6) (AC.flat_ok (by kernel_rfl)) (Am.ways [0, 5, 15, 16] [5] []) [] stGet _ _ stI (fun x => (x.n - x.i).toNat) (fun _ => rfl) ?_
 rintro ⟨f, n, l, i⟩ ⟨h0, h1, hM, hl⟩
 simp only at h0 h1 hM hl ⊢
 rw [st_b]
 obtain ⟨k, rfl⟩ := Int.eq_ofNat_of_zero_le h0
 simp only [Int.toNat_natCast] at hl ⊢
 by_cases hi : k < n
 ·refine .inl ⟨⟨f, n, l.set k (stU f k), k + 1⟩, ?_, ⟨by dsimp only; omega, by dsimp only; omega, hM, ?_⟩, by dsimp only; omega, leaf_eq rfl⟩
  ·rw [stE_eq]
   simp (disch := omega) only [tre]
  ·dsimp only
   rw [hl, show ((k : Int) + 1).toNat = k + 1 by omega, st_set hi]
 ·have e : k = n := by omega
  subst e
  refine .inr ⟨.exit 0, stX k l, ?_, nofun, ?_⟩
  ·simp (disch := omega) only [tre]
  ·rw [hl, Nat.sub_self, List.replicate_zero, List.append_nil]
   exact .leaf
theorem af_clStream_ok : AllOk Tryz.prog 20 af_clStream := .sums Tryz.func20 (by kernel_rfl) (by kernel_rfl) (by kernel_rfl) (by kernel_rfl) (sums_one (c := stC) (ts := [0, 5, 15, 16]) (by kernel_rfl) (by kernel_rfl) st_loop)
theorem clStream_t (f n : Int) : callV Ecla af_clStream [.int .i64 f, .int .i64 n] =
 bif andT true ((mnS n == mnS n) && Am.inC (mnS n) 9223372036854775807 && Nat.ble (1 * (mnS n).toNat) 281474976710656) then
 bif okG (stS (mx0 f) (mnS n).toNat (List.replicate (mnS n).toNat 0) 0 = stS (mx0 f) (mnS n).toNat (List.replicate (mnS n).toNat 0) 0 ∧ stI ⟨mx0 f, (mnS n).toNat, List.replicate (mnS n).toNat 0, 0⟩) then
 some (.ownv 5 (.bytes (stL (mx0 f) (mnS n).toNat))) else none else none := by kernel_rfl
theorem clStream_v (f n : Int) : callV Ecla af_clStream [.int .i64 f, .int .i64 n] = some (.ownv 5 (.bytes (stL (mx0 f) (mnS n).toNat))) := by
 have h0 := mnS_lo n
 have h1 := mnS_hi n
 rw [clStream_t, okG_t ⟨rfl, Int.le_refl 0, by show (0 : Int) ≤ ((mnS n).toNat : Int); omega, by show (mnS n).toNat ≤ 100; omega, rfl⟩]
 simp (disch := omega) only [tre]
def cStream : List V → Option (V × Bool)
 | [.int .i64 f, .int .i64 n] => some (.ownv 5 (.bytes (stL (mx0 f) (mnS n).toNat)), true)
 | _ => none
theorem clStream_con : ∀ vs v, cStream vs = some (v, true) → SpecV Tryz.prog 20 vs v := by
 intro vs v h; unfold cStream at h; split at h
 ·rename_i f n
  injection h with h; injection h with h hb; subst h
  exact callV_ok Ecla_ok af_clStream_ok (clStream_v f n)
 ·cases h
abbrev shFlw : Sh := .agg [.barr 16, .int .i64, .barr 16, .int .i64]
abbrev shCall : Sh := .agg [shFlw, .int .i64, .int .u32, .int .u32, .int .u32, .int .u32, .int .i64, .int .i64, .int .i64, .int .i64]
structure Cal where
 s : List UInt8
 sp : Int
 d : List UInt8
 dp : Int
 st : Int
 fi : Int
 nx : Int
 un : Int
 se : Int
 off : Int
 lo : Int
 si : Int
 ag : Int
def Cal.v (c : Cal) : V := .agg [.agg [.barr 16 c.s, .int .i64 c.sp, .barr 16 c.d, .int .i64 c.dp], .int .i64 c.st, .int .u32 c.fi, .int .u32 c.nx, .int .u32 c.un, .int .u32 c.se, .int .i64 c.off, .int .i64 c.lo, .int .i64 c.si, .int .i64 c.ag]
def hdV (l : List V) : V := l.headD .undef
def calOf (v : V) : Cal :=
  ⟨toA (hdV (toG (hdV (toG v)))), toI (hdV (toG (hdV (toG v))).tail), toA (hdV (toG (hdV (toG v))).tail.tail), toI (hdV (toG (hdV (toG v))).tail.tail.tail),
   toI (hdV (toG v).tail), toI (hdV (toG v).tail.tail), toI (hdV (toG v).tail.tail.tail), toI (hdV (toG v).tail.tail.tail.tail), toI (hdV (toG v).tail.tail.tail.tail.tail),
   toI (hdV (toG v).tail.tail.tail.tail.tail.tail), toI (hdV (toG v).tail.tail.tail.tail.tail.tail.tail), toI (hdV (toG v).tail.tail.tail.tail.tail.tail.tail.tail), toI (hdV (toG v).tail.tail.tail.tail.tail.tail.tail.tail.tail)⟩
def atC (L : List V) (i : Nat) : Cal := calOf (L.getD i .undef)
def upC (L : List V) (i : Nat) (c : Cal) : List V := L.set i c.v
theorem atC_up {L : List V} {i : Nat} (h : i < L.length) (c : Cal) : atC (upC L i c) i = c := by
 unfold atC upC
 rw [List.getD_eq_getElem?_getD, List.getElem?_set_self h]
 rfl
theorem upC_up (L : List V) (i : Nat) (c d : Cal) : upC (upC L i c) i d = upC L i d := by
 unfold upC
 rw [List.set_set]
theorem upC_len (L : List V) (i : Nat) (c : Cal) : (upC L i c).length = L.length := by unfold upC; rw [List.length_set]
def sgF (c : Cal) (sq fl : Int) (pl : List UInt8) : List UInt8 := pkB c.s c.d ⟨c.sp, c.dp, sq, if fl = 2 then 0 else c.nx, fl, 4096, 0, 0, [], pl⟩
noncomputable def af_clPacket : AF := afOf Tryz.prog Tryz.f51 []
theorem af_clPacket_ok : AllOk Tryz.prog 51 af_clPacket := .flat Tryz.func51 (by kernel_rfl) (by kernel_rfl) (by kernel_rfl) (by kernel_rfl) (by kernel_rfl)
noncomputable def af_clOut : AF := afOf Tryz.prog Tryz.f49 []
theorem af_clOut_ok : AllOk Tryz.prog 49 af_clOut := .flat Tryz.func49 (by kernel_rfl) (by kernel_rfl) (by kernel_rfl) (by kernel_rfl) (by kernel_rfl)
noncomputable def af_clLives : AF := afOf Tryz.prog Tryz.f50 []
theorem af_clLives_ok : AllOk Tryz.prog 50 af_clLives := .flat Tryz.func50 (by kernel_rfl) (by kernel_rfl) (by kernel_rfl) (by kernel_rfl) (by kernel_rfl)
noncomputable def GEclb : List (Nat × Con) := [(80, .val [.barr 16, .barr 16, .agg [.int .i64, .int .i64, .int .u32, .int .u32, .int .i64, .int .i64, .int .i64, .int .i64, .rows (.agg [.int .i64, .bytes]), .bytes]] cPkTcp), (79, .val [.agg [.int .i64, .int .i64, .int .u32, .int .u32, .int .i64, .int .i64, .int .i64, .int .i64, .rows (.agg [.int .i64, .bytes]), .bytes], .int .i64] cTcHas)]
theorem GEclb_ok : GOk Tryz.prog GEclb := .cons (enters_of Tryz.func80 (by kernel_rfl) rfl) pkTcp_con <| .cons (enters_of Tryz.func79 (by kernel_rfl) rfl) tcHas_con <| .nil
noncomputable def IEclb : List (Nat × AF) := []
theorem IEclb_ok : IOk Tryz.prog IEclb := .nil
noncomputable def CEclb : List (Nat × (List Nat × (S → Option (Bool × Tr)))) := []
theorem CEclb_ok : COk Tryz.prog CEclb := .nil
noncomputable def XEclb : List (Nat × (List Sh × (List V → PT))) := []
theorem XEclb_ok : XOk Tryz.prog XEclb := .nil
noncomputable def Eclb : Env := ⟨Tryz.prog, GEclb, IEclb, CEclb, XEclb, false⟩
theorem Eclb_ok : EnvOk Eclb := ⟨by kernel_rfl, GEclb_ok, IEclb_ok, CEclb_ok, XEclb_ok⟩
theorem clOut_t (s d : List UInt8) (sp dp st fi nx un se of lo si ag : Int) : callV Eclb af_clOut [.vref shCall (.agg [.agg [.barr 16 s, .int .i64 sp, .barr 16 d, .int .i64 dp], .int .i64 st, .int .u32 fi, .int .u32 nx, .int .u32 un, .int .u32 se, .int .i64 of, .int .i64 lo, .int .i64 si, .int .i64 ag])] =
 some (V.bool (un != se)) := by kernel_rfl
theorem clLives_t (s d : List UInt8) (sp dp st fi nx un se of lo si ag : Int) : callV Eclb af_clLives [.vref shCall (.agg [.agg [.barr 16 s, .int .i64 sp, .barr 16 d, .int .i64 dp], .int .i64 st, .int .u32 fi, .int .u32 nx, .int .u32 un, .int .u32 se, .int .i64 of, .int .i64 lo, .int .i64 si, .int .i64 ag])] =
 bif decide (st ≥ (1 : Int)) then some (V.bool (decide (st ≤ (3 : Int)))) else some (V.bool false) := by kernel_rfl
theorem clPacket_t (s d : List UInt8) (sp dp st fi nx un se of lo si ag : Int) (sq fl : Int) (pl : List UInt8) : callV Eclb af_clPacket [.vref shCall (.agg [.agg [.barr 16 s, .int .i64 sp, .barr 16 d, .int .i64 dp], .int .i64 st, .int .u32 fi, .int .u32 nx, .int .u32 un, .int .u32 se, .int .i64 of, .int .i64 lo, .int .i64 si, .int .i64 ag]), .int .u32 sq, .int .i64 fl, .bytes pl] =
 bif bits BinOp.and IntKind.i64 fl (16 : Int) == (16 : Int) then
 bif
 andT true (decide (((0 : Int) ≤ sq ∧ sq ≤ (4294967295 : Int)) ∧ (0 : Int) ≤ nx ∧ nx ≤ (4294967295 : Int))) &&
 true then
 some
 (V.ownv (5 : Nat)
 (V.bytes
 (pkB s d
 { sp := sp, dp := dp, sq := sq, ak := nx, fl := fl, wn := (4096 : Int), sm := (0 : Int), ug := (0 : Int), op := [], pl := pl })))
 else none
 else
 bif
 andT true
 (decide
 (((0 : Int) ≤ sq ∧ sq ≤ (4294967295 : Int)) ∧ (0 : Int) ≤ (0 : Int) ∧ (0 : Int) ≤ (4294967295 : Int))) &&
 true then
 some
 (V.ownv (5 : Nat)
 (V.bytes
 (pkB s d
 { sp := sp, dp := dp, sq := sq, ak := (0 : Int), fl := fl, wn := (4096 : Int), sm := (0 : Int), ug := (0 : Int), op := [], pl := pl })))
 else none := by kernel_rfl
def cClOut : List V → Option (V × Bool)
 | [.vref (.agg [.agg [.barr 16, .int .i64, .barr 16, .int .i64], .int .i64, .int .u32, .int .u32, .int .u32, .int .u32, .int .i64, .int .i64, .int .i64, .int .i64]) (.agg [.agg [.barr 16 s, .int .i64 sp, .barr 16 d, .int .i64 dp], .int .i64 st, .int .u32 fi, .int .u32 nx, .int .u32 un, .int .u32 se, .int .i64 of, .int .i64 lo, .int .i64 si, .int .i64 ag])] => some (.bool (un != se), true)
 | _ => none
theorem clOut_con : ∀ vs v, cClOut vs = some (v, true) → SpecV Tryz.prog 49 vs v := by
 intro vs v h; unfold cClOut at h; split at h
 ·rename_i s sp d dp st fi nx un se of lo si ag
  injection h with h; injection h with h hb; subst h
  exact callV_ok Eclb_ok af_clOut_ok (clOut_t s d sp dp st fi nx un se of lo si ag)
 ·cases h
def cClLives : List V → Option (V × Bool)
 | [.vref (.agg [.agg [.barr 16, .int .i64, .barr 16, .int .i64], .int .i64, .int .u32, .int .u32, .int .u32, .int .u32, .int .i64, .int .i64, .int .i64, .int .i64]) (.agg [.agg [.barr 16 s, .int .i64 sp, .barr 16 d, .int .i64 dp], .int .i64 st, .int .u32 fi, .int .u32 nx, .int .u32 un, .int .u32 se, .int .i64 of, .int .i64 lo, .int .i64 si, .int .i64 ag])] => some (.bool (decide (1 ≤ st) && decide (st ≤ 3)), true)
 | _ => none
theorem clLives_con : ∀ vs v, cClLives vs = some (v, true) → SpecV Tryz.prog 50 vs v := by
 intro vs v h; unfold cClLives at h; split at h
 ·rename_i s sp d dp st fi nx un se of lo si ag
  injection h with h; injection h with h hb; subst h
  exact callV_ok Eclb_ok af_clLives_ok ((by rw [clLives_t]; by_cases h : st ≥ 1 <;> simp [h]))
 ·cases h
theorem clPacket_v (c : Cal) (sq fl : Int) (pl : List UInt8) (h : (fl = 2 ∨ fl = 16 ∨ fl = 17 ∨ fl = 24) ∧ u32ok sq ∧ u32ok c.nx) : callV Eclb af_clPacket [.vref shCall c.v, .int .u32 sq, .int .i64 fl, .bytes pl] = some (.ownv 5 (.bytes (sgF c sq fl pl))) := by
 obtain ⟨s, d, sp, dp, st, fi, nx, un, se, of, lo, si, ag⟩ := c
 obtain ⟨h, ⟨h1, h2⟩, h3, h4⟩ := h
 simp only at h3 h4
 unfold Cal.v
 simp only
 rw [clPacket_t]
 rcases h with rfl | rfl | rfl | rfl
 ·rw [show (bits BinOp.and IntKind.i64 2 16 == (16 : Int)) = false from rfl]
  simp (disch := omega) only [tre]
  rfl
 ·rw [show (bits BinOp.and IntKind.i64 16 16 == (16 : Int)) = true from rfl]
  simp (disch := omega) only [tre]
  rfl
 ·rw [show (bits BinOp.and IntKind.i64 17 16 == (16 : Int)) = true from rfl]
  simp (disch := omega) only [tre]
  rfl
 ·rw [show (bits BinOp.and IntKind.i64 24 16 == (16 : Int)) = true from rfl]
  simp (disch := omega) only [tre]
  rfl
def cClPacket : List V → Option (V × Bool)
 | [.vref (.agg [.agg [.barr 16, .int .i64, .barr 16, .int .i64], .int .i64, .int .u32, .int .u32, .int .u32, .int .u32, .int .i64, .int .i64, .int .i64, .int .i64]) (.agg [.agg [.barr 16 s, .int .i64 sp, .barr 16 d, .int .i64 dp], .int .i64 st, .int .u32 fi, .int .u32 nx, .int .u32 un, .int .u32 se, .int .i64 of, .int .i64 lo, .int .i64 si, .int .i64 ag]), .int .u32 sq, .int .i64 fl, .bytes pl] => some (.ownv 5 (.bytes (sgF ⟨s, sp, d, dp, st, fi, nx, un, se, of, lo, si, ag⟩ sq fl pl)), decide ((fl = 2 ∨ fl = 16 ∨ fl = 17 ∨ fl = 24) ∧ u32ok sq ∧ u32ok nx))
 | _ => none
theorem clPacket_con : ∀ vs v, cClPacket vs = some (v, true) → SpecV Tryz.prog 51 vs v := by
 intro vs v h; unfold cClPacket at h; split at h
 ·rename_i s sp d dp st fi nx un se of lo si ag sq fl pl
  injection h with h; injection h with h hb; subst h
  exact callV_ok Eclb_ok af_clPacket_ok (clPacket_v ⟨s, sp, d, dp, st, fi, nx, un, se, of, lo, si, ag⟩ sq fl pl (of_decide_eq_true hb))
 ·cases h
def akF (c : Cal) : List V := [.bytes (sgF c c.se 16 [])]
def lsF (c : Cal) : List V :=
 if c.un = c.se then [] else if c.st > 3 then [] else if c.st = 1 then [.bytes (sgF c c.un 2 [])]
 else if c.lo > 0 then [.bytes (sgF c c.un 24 (stL (mx0 c.off) (mnS c.lo).toNat))] else [.bytes (sgF c c.un 17 [])]
abbrev cOk (c : Cal) : Prop := u32ok c.nx ∧ u32ok c.un ∧ u32ok c.se
def tkD1 (c : Cal) (ak : Int) : Cal := if c.un = c.se then c else if ak = c.se then { c with un := c.se, off := IntKind.i64.wrap (c.off + c.lo), lo := 0 } else c
def tkD2 (c : Cal) (b1 : Bool) (sq : Int) : Cal := if b1 = true then if sq = c.nx then { c with nx := IntKind.u32.wrap (c.nx + 1), st := 4 } else c else c
def tkD3 (c : Cal) (b1 : Bool) (sq : Int) : Cal × List V := if b1 = true then if sq = IntKind.u32.wrap (c.nx - 1) then (c, akF c) else (c, []) else (c, [])
def takB (c : Cal) (b16 b4 b2 b1 : Bool) (sq ak : Int) : Cal × List V :=
 if c.st = 1 then
  if b16 = true then
   if ak = c.se then
    if b4 = true then ({ c with st := 5 }, [])
    else if b2 = true then ({ c with nx := IntKind.u32.wrap (sq + 1), un := c.se, st := 2 }, akF { c with nx := IntKind.u32.wrap (sq + 1), un := c.se, st := 2 })
    else (c, [])
   else (c, [])
  else (c, [])
 else if c.st = 2 ∨ c.st = 3 then
  if b4 = true then (if sq = c.nx then ({ c with st := 5 }, []) else (c, []))
  else if b16 = true then
   if b2 = true then (c, akF c)
   else tkD3 (tkD2 (tkD1 c ak) b1 sq) b1 sq
  else (c, [])
 else if c.st = 4 then
  if b1 = true then
   if b16 = true then
    if b2 = true then (c, []) else if b4 = true then (c, []) else if sq = IntKind.u32.wrap (c.nx - 1) then (c, akF c) else (c, [])
   else (c, [])
  else (c, [])
 else (c, [])
def bitF (fl k : Int) : Bool := bits .and .i64 fl k != 0
def takF (c : Cal) (fl sq ak : Int) : Cal × List V := takB c (bitF fl 16) (bitF fl 4) (bitF fl 2) (bitF fl 1) sq ak
theorem u32w (x : Int) : 0 ≤ IntKind.u32.wrap x ∧ IntKind.u32.wrap x ≤ 4294967295 := by
 simp [IntKind.wrap, IntKind.signed, IntKind.bits]; omega
end Go.Proofs.YtfhljcbbgckdiaaGreat