/- Part Gv of the proof: laws used by the law of this claim. -/
import Derived.Test.YtbojofchpnfnlaaGx
import Derived.Test.YtbojofchpnfnlaaGo
import Derived.Test.YtbojofchpnfnlaaGi
import Derived.Test.YtbojofchpnfnlaaGt
set_option linter.all false
namespace Go.Proofs.Ytbojofchpnfnlaa
open Go Go.Am Go.RowKit Go.Mix Go.Bas
set_option maxRecDepth 100000
noncomputable def af_lives13 : AF := afOf Try.prog Try.f47 []
theorem af_lives13_ok : AllOk Try.prog 47 af_lives13 := .flat Try.func47 (by kernel_rfl) (by kernel_rfl) (by kernel_rfl) (by kernel_rfl) (by kernel_rfl)
noncomputable def GEpki : List (Nat × Con) := [(48, .val [.barr 16, .barr 16, .agg [.int .i64, .int .i64, .int .u32, .int .u32, .int .i64, .int .i64, .int .i64, .int .i64, .rows (.agg [.int .i64, .bytes]), .bytes]] cPkTcp), (54, .val [.bytes] cPkParse), (52, .val [.int .i64] cReason)]
theorem GEpki_ok : GOk Try.prog GEpki := .cons (enters_of Try.func48 (by kernel_rfl) rfl) pkTcp_con <| .cons (enters_of Try.func54 (by kernel_rfl) rfl) pkParse_con <| .cons (enters_of Try.func52 (by kernel_rfl) rfl) pkReason_con <| .nil
noncomputable def IEpki : List (Nat × AF) := []
theorem IEpki_ok : IOk Try.prog IEpki := .nil
noncomputable def CEpki : List (Nat × (List Nat × (S → Option S))) := []
theorem CEpki_ok : COk Try.prog CEpki := .nil
noncomputable def XEpki : List (Nat × (List Sh × (List V → PT))) := []
theorem XEpki_ok : XOk Try.prog XEpki := .nil
noncomputable def Epki : Env := ⟨Try.prog, GEpki, IEpki, CEpki, XEpki⟩
theorem Epki_ok : EnvOk Epki := ⟨by kernel_rfl, GEpki_ok, IEpki_ok, CEpki_ok, XEpki_ok⟩
theorem lives13_v : callV Epki af_lives13 [] = some (.bool true) := by kernel_rfl
def cTrue13 : List V → Option (V × Bool)
  | [] => some (.bool true, true)
  | _ => none
theorem lives13_con : ∀ vs v, cTrue13 vs = some (v, true) → SpecV Try.prog 47 vs v := by
  intro vs v h; unfold cTrue13 at h; split at h
  · injection h with h; injection h with h hb; subst h
    exact callV_ok Epki_ok af_lives13_ok (lives13_v)
  · cases h
noncomputable def af_PacketBack : AF := afOf Try.prog Try.f15 []
theorem af_PacketBack_ok : AllOk Try.prog 15 af_PacketBack := .flat Try.func15 (by kernel_rfl) (by kernel_rfl) (by kernel_rfl) (by kernel_rfl) (by kernel_rfl)
noncomputable def GEpkj : List (Nat × Con) := [(47, .val [] cTrue13), (48, .val [.barr 16, .barr 16, .agg [.int .i64, .int .i64, .int .u32, .int .u32, .int .i64, .int .i64, .int .i64, .int .i64, .rows (.agg [.int .i64, .bytes]), .bytes]] cPkTcp), (50, .val [.barr 16, .barr 16, .agg [.int .i64, .int .i64, .int .u32, .bytes]] cPkIcmp), (54, .val [.bytes] cPkParse), (27, .val [.agg [.int .i64, .int .i64, .int .u32, .int .u32, .int .i64, .int .i64, .int .i64, .int .i64, .rows (.agg [.int .i64, .bytes]), .bytes], .agg [.int .i64, .int .i64, .int .u32, .int .u32, .int .i64, .int .i64, .int .i64, .int .i64, .rows (.agg [.int .i64, .bytes]), .bytes]] crTcSame), (55, .val [.agg [.int .i64, .int .i64, .int .u32, .bytes], .agg [.int .i64, .int .i64, .int .u32, .bytes]] cISame)]

theorem GEpkj_ok : GOk Try.prog GEpkj := .cons (enters_of Try.func47 (by kernel_rfl) rfl) lives13_con <| .cons (enters_of Try.func48 (by kernel_rfl) rfl) pkTcp_con <| .cons (enters_of Try.func50 (by kernel_rfl) rfl) pkIcmp_con <| .cons (enters_of Try.func54 (by kernel_rfl) rfl) pkParse_con <| .cons (enters_of Try.func27 (by kernel_rfl) rfl) rTcSame_con <| .cons (enters_of Try.func55 (by kernel_rfl) rfl) ISame_con <| .nil

noncomputable def IEpkj : List (Nat × AF) := []
theorem IEpkj_ok : IOk Try.prog IEpkj := .nil
noncomputable def CEpkj : List (Nat × (List Nat × (S → Option S))) := []
theorem CEpkj_ok : COk Try.prog CEpkj := .nil
noncomputable def XEpkj : List (Nat × (List Sh × (List V → PT))) := []
theorem XEpkj_ok : XOk Try.prog XEpkj := .nil
noncomputable def Epkj : Env := ⟨Try.prog, GEpkj, IEpkj, CEpkj, XEpkj⟩
theorem Epkj_ok : EnvOk Epkj := ⟨by kernel_rfl, GEpkj_ok, IEpkj_ok, CEpkj_ok, XEpkj_ok⟩
end Go.Proofs.Ytbojofchpnfnlaa

namespace Go.Proofs.Ytbojofchpnfnlaa
open Go Go.Am Go.RowKit Go.Mix Go.Bas
set_option maxRecDepth 100000
structure MdF (x y s d : List UInt8) (kk : Int) : Prop where
  e1 : pqE1 x = 0
  rt : pqRt x = false
  k : luK (pqL x) = kk
  u : pqU x = y
  f : pqF x = d
  s : gS x = s
  l : x.length = 40 + y.length
theorem md_back {s d u : List UInt8} {k : Int} (hk : k = 6 ∨ k = 58) (hu : u.length ≤ 1460) (hs : s.length = 16) (hd : d.length = 16) : MdF (hdX 0 0 u.length k 64 s d ++ u) u s d k := by
  have f := hd_back (c := 0) (la := 0) (ln := u.length) (nx := k) (hp := 64) ⟨by omega, by omega, by omega, by omega, by omega⟩ hs hd u
  generalize hdX 0 0 u.length k 64 s d ++ u = x at *
  have hl := f.l
  have w1 : wkM k 0 = 0 := by
    unfold wkM wkX
    rcases hk with rfl | rfl <;> decide
  have w2 : wkX k = false := by
    unfold wkX
    rcases hk with rfl | rfl <;> decide
  have w3 : wkR 10 x k 40 0 = (0, [pt k 40 (x.length - 40)]) := by
    rw [wkR, if_pos w1, w2]
    rfl
  have wE : wkE x (gNx x) 40 = 0 := by
    rw [f.nx]; unfold wkE; rw [if_pos ⟨by omega, by omega⟩, w3]
  have wV : pqL x = [pt k 40 (x.length - 40)] := by
    unfold pqL; rw [f.nx]; unfold wkV; rw [if_pos ⟨by omega, by omega, by rw [w3]⟩, w3]
  have hb : hrBad (pqL x) 0 = false := by rw [wV]; rfl
  have hr : pqRt x = false := by
    unfold pqRt; rw [wV]
    rcases hk with rfl | rfl <;> rfl
  have hF : pqF x = d := by unfold pqF; rw [hr, f.d]; rfl
  refine ⟨?_, hr, by rw [wV]; rfl, ?_, hF, f.s, hl⟩
  · unfold pqE1
    rw [if_neg (by omega), if_neg (by simpa using f.e), if_neg (by rw [f.ln]; omega), if_neg (by simpa using wE), if_neg (by rw [hb]; simp), if_neg (by rw [hr]; simp)]
  · unfold pqU
    rw [wV]
    exact f.q
theorem pk_back {s d : List UInt8} {t : Tc} (h : pkE s d t = 0) (hs : s.length = 16) (hd : d.length = 16) (hq : u32ok t.sq) (ha : u32ok t.ak) (ho : (tls t.op).map tlV = t.op) :
    tcEr t = 0 ∧ pqE (pkB s d t) = 0 ∧ (pqX (pkB s d t)).k = 6 ∧ (pqX (pkB s d t)).h.s = s ∧ (pqX (pkB s d t)).fin = d ∧ (pqX (pkB s d t)).t = tcS s d t ∧ (pkB s d t).length ≤ 1500 ∧ (pqX (pkB s d t)).r = false := by
  obtain ⟨f1, f2, f3⟩ := tcS_keep s d t
  unfold pkE at h
  have h1 : tcEr (tcS s d t) = 0 := by
    by_cases h1 : tcEr (tcS s d t) = 0
    · exact h1
    · rw [if_neg h1] at h; exact absurd h h1
  rw [if_pos h1] at h
  have hl : (tcP (tcS s d t)).length ≤ 1460 := by
    unfold mdE at h
    split at h
    · cases h
    · omega
  have h0 : tcEr t = 0 := by
    by_cases h0 : tcEr t = 0
    · exact h0
    · have e : tcS s d t = t := by unfold tcS; rw [if_neg h0]
      rwa [e] at h1
  have hB : pkB s d t = hdX 0 0 (tcP (tcS s d t)).length 6 64 s d ++ tcP (tcS s d t) := by
    unfold pkB mdB; rw [if_pos h1, if_neg (by omega)]
  have m := md_back (k := 6) (.inl rfl) hl hs hd
  rw [← hB] at m
  obtain ⟨b1, b2⟩ := tpX_back h1 (by rw [f2]; exact hq) (by rw [f3]; exact ha) (by rw [f1]; exact ho)
  have g := (tcS_fine (s := s) (d := d) h0).1
  have hE : pqE (pkB s d t) = 0 := by
    rw [pq_up m.e1, m.s, m.f, m.k, m.u]
    unfold upE
    rw [if_pos rfl, if_neg (by simpa using b1), if_pos g]
  have hX := pq_ok hE
  refine ⟨h0, hE, ?_, ?_, ?_, ?_, by have := m.l; omega, ?_⟩
  · rw [hX]; exact m.k
  · rw [hX]; exact m.s
  · rw [hX]; exact m.f
  · rw [hX]
    show kT (luK (pqL _)) (tpXX (pqU _)) = _
    rw [m.k, m.u, b2]
    rfl
  · rw [hX]; exact m.rt
theorem putM_no {s d : List UInt8} {kd cd wd : Int} {b : List UInt8} (h : ¬ ((0 ≤ kd ∧ kd ≤ 255) ∧ (0 ≤ cd ∧ cd ≤ 255))) : putM s d kd cd wd b = [] := by
  unfold putM
  rw [if_neg (fun hq => h ⟨octB_iff.1 hq.1, octB_iff.1 hq.2⟩)]
theorem pi_back {s d : List UInt8} {kd cd wd : Int} {body : List UInt8} (h : piE s d kd cd wd body = 0) (hs : s.length = 16) (hd : d.length = 16) (h0 : 0 ≤ wd) (h1 : wd < 4294967296) :
    pqE (piB s d kd cd wd body) = 0 ∧ (pqX (piB s d kd cd wd body)).k = 58 ∧ (pqX (piB s d kd cd wd body)).h.s = s ∧ (pqX (piB s d kd cd wd body)).fin = d ∧ ((pqX (piB s d kd cd wd body)).mk_ = kd ∧ (pqX (piB s d kd cd wd body)).mc = cd ∧ (pqX (piB s d kd cd wd body)).mw = wd ∧ (pqX (piB s d kd cd wd body)).mb = body) ∧ (piB s d kd cd wd body).length ≤ 1500 ∧ (pqX (piB s d kd cd wd body)).r = false := by
  unfold piE at h
  by_cases hz : (putM s d kd cd wd body).length = 0
  · rw [if_pos hz] at h; cases h
  rw [if_neg hz] at h
  have hl : (putM s d kd cd wd body).length ≤ 1460 := by
    unfold mdE at h
    split at h
    · cases h
    · omega
  have hv : (0 ≤ kd ∧ kd ≤ 255) ∧ (0 ≤ cd ∧ cd ≤ 255) := by
    by_cases hv : (0 ≤ kd ∧ kd ≤ 255) ∧ (0 ≤ cd ∧ cd ≤ 255)
    · exact hv
    · rw [putM_no hv] at hz; exact absurd rfl hz
  obtain ⟨v1, v2⟩ := hv
  have hB : piB s d kd cd wd body = hdX 0 0 (putM s d kd cd wd body).length 58 64 s d ++ putM s d kd cd wd body := by
    unfold piB mdB; rw [if_neg hz, if_neg (by omega)]
  have m := md_back (k := 58) (.inr rfl) hl hs hd
  rw [← hB] at m
  have hfine : both s d 58 (putM s d kd cd wd body) = 65535 := by
    unfold putM
    rw [if_pos ⟨octB_iff.2 v1, octB_iff.2 v2⟩]
    exact fine_law s d 58 (msg0 kd cd wd body) 2 (by simp [msg0, four]) rfl rfl rfl
  obtain ⟨x, y, hp⟩ := putM_cons s d kd cd wd body v1 v2
  have hI : ipE s d (putM s d kd cd wd body) = 0 := by
    unfold ipE
    rw [if_neg (by rw [hp]; simp), if_pos hfine]
  have hE : pqE (piB s d kd cd wd body) = 0 := by
    rw [pq_up m.e1, m.s, m.f, m.k, m.u]
    exact hI
  have hX := pq_ok hE
  refine ⟨hE, ?_, ?_, ?_, ⟨?_, ?_, ?_, ?_⟩, by have := m.l; omega, ?_⟩
  · rw [hX]; exact m.k
  · rw [hX]; exact m.s
  · rw [hX]; exact m.f
  · rw [hX]
    show kI (luK (pqL _)) 58 (gt (pqU _) 0) = _
    rw [m.k, m.u, hp]
    exact (gt_b8 kd).trans (by omega)
  · rw [hX]
    show kI (luK (pqL _)) 58 (gt (pqU _) 1) = _
    rw [m.k, m.u, hp]
    exact (gt_b8 cd).trans (by omega)
  · rw [hX]
    show kI (luK (pqL _)) 58 (be32 (pqU _) 4) = _
    rw [m.k, m.u, hp]
    show ((((b8 (wd / 16777216)).toNat : Int) * 256 + ((b8 (wd / 65536)).toNat : Int)) * 256 + ((b8 (wd / 256)).toNat : Int)) * 256 + ((b8 wd).toNat : Int) = wd
    rw [gt_b8, gt_b8, gt_b8, gt_b8]
    omega
  · rw [hX]
    show kL (luK (pqL _)) 58 ((pqU _).drop 8) = _
    rw [m.k, m.u, hp]
    rfl
  · rw [hX]; exact m.rt
def sh_PacketBack : List Sh := [.agg [.barr 16, .barr 16], .agg [.int .i64, .int .i64, .int .u32, .int .u32, .int .i64, .int .i64, .int .i64, .int .i64, .rows (.agg [.int .i64, .bytes]), .bytes], .agg [.int .i64, .int .i64, .int .u32, .bytes]]
theorem PacketBack_t (s : List UInt8) (d : List UInt8) (sp : Int) (dp : Int) (sq : Int) (ak : Int) (fl : Int) (wn : Int) (sm : Int) (ug : Int) (op : List V) (pl : List UInt8) (kd : Int) (cd : Int) (wd : Int) (body : List UInt8) : callV Epkj af_PacketBack [.agg [.barr 16 s, .barr 16 d], .agg [.int .i64 sp, .int .i64 dp, .int .u32 sq, .int .u32 ak, .int .i64 fl, .int .i64 wn, .int .i64 sm, .int .i64 ug, .rows (.agg [.int .i64, .bytes]) op, .bytes pl], .agg [.int .i64 kd, .int .i64 cd, .int .u32 wd, .bytes body]] =
 bif decide ((↑op.length : Int) > (60 : Int)) then some (V.bool true)
 else
 bif decide ((↑pl.length : Int) > (3000 : Int)) then some (V.bool true)
 else
 bif decide ((↑body.length : Int) > (3000 : Int)) then some (V.bool true)
 else
 bif
 andT true
 (decide (op.length ≤ (4611686018427387904 : Nat)) &&
 (smallL op &&
 decide (((0 : Int) ≤ sq ∧ sq ≤ (4294967295 : Int)) ∧ (0 : Int) ≤ ak ∧ ak ≤ (4294967295 : Int)))) then
 bif
 pkE s d
 { sp := sp, dp := dp, sq := sq, ak := ak, fl := fl, wn := wn, sm := sm, ug := ug, op := op, pl := pl } ==
 (0 : Int) then
 bif
 pqE
 (pkB s d
 { sp := sp, dp := dp, sq := sq, ak := ak, fl := fl, wn := wn, sm := sm, ug := ug, op := op, pl := pl }) !=
 (0 : Int) then
 some (V.bool false)
 else
 bif
 (pqX
 (pkB s d
 { sp := sp, dp := dp, sq := sq, ak := ak, fl := fl, wn := wn, sm := sm, ug := ug, op := op, pl := pl })).10 !=
 (6 : Int) then
 some (V.bool false)
 else
 bif
 !(pqX
 (pkB s d
 { sp := sp, dp := dp, sq := sq, ak := ak, fl := fl, wn := wn, sm := sm, ug := ug, op := op, pl := pl })).h.6 ==
 s then
 some (V.bool false)
 else
 bif
 !(pqX
 (pkB s d
 { sp := sp, dp := dp, sq := sq, ak := ak, fl := fl, wn := wn, sm := sm, ug := ug, op := op, pl := pl })).9 ==
 d then
 some (V.bool false)
 else
 bif
 andT true
 (eqTc
 { sp := (pqX (pkB s d { sp := sp, dp := dp, sq := sq, ak := ak, fl := fl, wn := wn, sm := sm, ug := ug, op := op, pl := pl })).t.1, dp := (pqX (pkB s d { sp := sp, dp := dp, sq := sq, ak := ak, fl := fl, wn := wn, sm := sm, ug := ug, op := op, pl := pl })).t.2, sq := (pqX (pkB s d { sp := sp, dp := dp, sq := sq, ak := ak, fl := fl, wn := wn, sm := sm, ug := ug, op := op, pl := pl })).t.3, ak := (pqX (pkB s d { sp := sp, dp := dp, sq := sq, ak := ak, fl := fl, wn := wn, sm := sm, ug := ug, op := op, pl := pl })).t.4, fl := (pqX (pkB s d { sp := sp, dp := dp, sq := sq, ak := ak, fl := fl, wn := wn, sm := sm, ug := ug, op := op, pl := pl })).t.5, wn := (pqX (pkB s d { sp := sp, dp := dp, sq := sq, ak := ak, fl := fl, wn := wn, sm := sm, ug := ug, op := op, pl := pl })).t.6, sm := (pqX (pkB s d { sp := sp, dp := dp, sq := sq, ak := ak, fl := fl, wn := wn, sm := sm, ug := ug, op := op, pl := pl })).t.7, ug := (pqX (pkB s d { sp := sp, dp := dp, sq := sq, ak := ak, fl := fl, wn := wn, sm := sm, ug := ug, op := op, pl := pl })).t.8, op := (pqX (pkB s d { sp := sp, dp := dp, sq := sq, ak := ak, fl := fl, wn := wn, sm := sm, ug := ug, op := op, pl := pl })).t.9, pl := (pqX (pkB s d { sp := sp, dp := dp, sq := sq, ak := ak, fl := fl, wn := wn, sm := sm, ug := ug, op := op, pl := pl })).t.10 }
 { sp := sp, dp := dp, sq := sq, ak := ak, fl := fl, wn := wn, sm := (pqX (pkB s d { sp := sp, dp := dp, sq := sq, ak := ak, fl := fl, wn := wn, sm := sm, ug := ug, op := op, pl := pl })).t.7, ug := ug, op := op, pl := pl } &&
 decide
 ((pqX
 (pkB s d
 { sp := sp, dp := dp, sq := sq, ak := ak, fl := fl, wn := wn, sm := sm, ug := ug, op := op, pl := pl })).t.9.length ≤
 (4611686018427387904 : Nat))) then
 bif
 decide
 ((↑(pkB s d
 { sp := sp, dp := dp, sq := sq, ak := ak, fl := fl, wn := wn, sm := sm, ug := ug, op := op, pl := pl }).length :
 Int) >
 (1500 : Int)) then
 some (V.bool false)
 else
 bif
 andT true
 (decide
 (body.length ≤ (140737488351232 : Nat) ∧ (0 : Int) ≤ wd ∧ wd < (4294967296 : Int))) then
 bif piE s d kd cd wd body == (0 : Int) then
 bif pqE (piB s d kd cd wd body) != (0 : Int) then some (V.bool false)
 else
 bif (pqX (piB s d kd cd wd body)).10 != (58 : Int) then some (V.bool false)
 else
 bif !(pqX (piB s d kd cd wd body)).h.6 == s then some (V.bool false)
 else
 bif !(pqX (piB s d kd cd wd body)).9 == d then some (V.bool false)
 else
 bif
 !smB (pqX (piB s d kd cd wd body)).12 (pqX (piB s d kd cd wd body)).13
 (pqX (piB s d kd cd wd body)).14 (pqX (piB s d kd cd wd body)).15 kd cd wd
 body then
 some (V.bool false)
 else
 bif decide ((↑(piB s d kd cd wd body).length : Int) > (1500 : Int)) then
 some (V.bool false)
 else some (V.bool true)
 else some (V.bool true)
 else none
 else none
 else
 bif
 andT true
 (decide (body.length ≤ (140737488351232 : Nat) ∧ (0 : Int) ≤ wd ∧ wd < (4294967296 : Int))) then
 bif piE s d kd cd wd body == (0 : Int) then
 bif pqE (piB s d kd cd wd body) != (0 : Int) then some (V.bool false)
 else
 bif (pqX (piB s d kd cd wd body)).10 != (58 : Int) then some (V.bool false)
 else
 bif !(pqX (piB s d kd cd wd body)).h.6 == s then some (V.bool false)
 else
 bif !(pqX (piB s d kd cd wd body)).9 == d then some (V.bool false)
 else
 bif
 !smB (pqX (piB s d kd cd wd body)).12 (pqX (piB s d kd cd wd body)).13
 (pqX (piB s d kd cd wd body)).14 (pqX (piB s d kd cd wd body)).15 kd cd wd body then
 some (V.bool false)
 else
 bif decide ((↑(piB s d kd cd wd body).length : Int) > (1500 : Int)) then some (V.bool false)
 else some (V.bool true)
 else some (V.bool true)
 else none
 else none := by kernel_rfl

theorem PacketBack_v : ∀ xs, inRs 140737488351232 sh_PacketBack xs = true → callV Epkj af_PacketBack xs = some (.bool true) := by
  intro xs h
  obtain ⟨zx1, zl1, rfl, zh1, zr1⟩ := inRs_cons h; clear h
  obtain ⟨zg1, rfl, za1⟩ := inR_agg zh1; clear zh1
  obtain ⟨zx2, zl2, rfl, zh2, zr2⟩ := inRs_cons za1; clear za1
  obtain ⟨s, rfl, hs⟩ := inR_barr zh2; clear zh2
  obtain ⟨zx3, zl3, rfl, zh3, zr3⟩ := inRs_cons zr2; clear zr2
  obtain ⟨d, rfl, hd⟩ := inR_barr zh3; clear zh3
  obtain rfl := inRs_nil zr3; clear zr3
  obtain ⟨zx4, zl4, rfl, zh4, zr4⟩ := inRs_cons zr1; clear zr1
  obtain ⟨zg4, rfl, za4⟩ := inR_agg zh4; clear zh4
  obtain ⟨zx5, zl5, rfl, zh5, zr5⟩ := inRs_cons za4; clear za4
  obtain ⟨sp, rfl, hsp0, hsp1⟩ := inR_i64 zh5; clear zh5
  obtain ⟨zx6, zl6, rfl, zh6, zr6⟩ := inRs_cons zr5; clear zr5
  obtain ⟨dp, rfl, hdp0, hdp1⟩ := inR_i64 zh6; clear zh6
  obtain ⟨zx7, zl7, rfl, zh7, zr7⟩ := inRs_cons zr6; clear zr6
  obtain ⟨sq, rfl, hsq0, hsq1⟩ := inR_u32 zh7; clear zh7
  obtain ⟨zx8, zl8, rfl, zh8, zr8⟩ := inRs_cons zr7; clear zr7
  obtain ⟨ak, rfl, hak0, hak1⟩ := inR_u32 zh8; clear zh8
  obtain ⟨zx9, zl9, rfl, zh9, zr9⟩ := inRs_cons zr8; clear zr8
  obtain ⟨fl, rfl, hfl0, hfl1⟩ := inR_i64 zh9; clear zh9
  obtain ⟨zx10, zl10, rfl, zh10, zr10⟩ := inRs_cons zr9; clear zr9
  obtain ⟨wn, rfl, hwn0, hwn1⟩ := inR_i64 zh10; clear zh10
  obtain ⟨zx11, zl11, rfl, zh11, zr11⟩ := inRs_cons zr10; clear zr10
  obtain ⟨sm, rfl, hsm0, hsm1⟩ := inR_i64 zh11; clear zh11
  obtain ⟨zx12, zl12, rfl, zh12, zr12⟩ := inRs_cons zr11; clear zr11
  obtain ⟨ug, rfl, hug0, hug1⟩ := inR_i64 zh12; clear zh12
  obtain ⟨zx13, zl13, rfl, zh13, zr13⟩ := inRs_cons zr12; clear zr12
  obtain ⟨op, rfl, hop, qop⟩ := inR_rows zh13; clear zh13
  obtain ⟨zx14, zl14, rfl, zh14, zr14⟩ := inRs_cons zr13; clear zr13
  obtain ⟨pl, rfl, hpl⟩ := inR_bytes zh14; clear zh14
  obtain rfl := inRs_nil zr14; clear zr14
  obtain ⟨zx15, zl15, rfl, zh15, zr15⟩ := inRs_cons zr4; clear zr4
  obtain ⟨zg15, rfl, za15⟩ := inR_agg zh15; clear zh15
  obtain ⟨zx16, zl16, rfl, zh16, zr16⟩ := inRs_cons za15; clear za15
  obtain ⟨kd, rfl, hkd0, hkd1⟩ := inR_i64 zh16; clear zh16
  obtain ⟨zx17, zl17, rfl, zh17, zr17⟩ := inRs_cons zr16; clear zr16
  obtain ⟨cd, rfl, hcd0, hcd1⟩ := inR_i64 zh17; clear zh17
  obtain ⟨zx18, zl18, rfl, zh18, zr18⟩ := inRs_cons zr17; clear zr17
  obtain ⟨wd, rfl, hwd0, hwd1⟩ := inR_u32 zh18; clear zh18
  obtain ⟨zx19, zl19, rfl, zh19, zr19⟩ := inRs_cons zr18; clear zr18
  obtain ⟨body, rfl, hbody⟩ := inR_bytes zh19; clear zh19
  obtain rfl := inRs_nil zr19; clear zr19
  obtain rfl := inRs_nil zr15; clear zr15
  rw [PacketBack_t, smallL_of (smallC_of qop)]
  by_cases h1 : op.length ≤ 60
  rotate_left
  · simp (disch := omega) only [dec_t, dec_f, inB_t, inC_t, andT_t, cond_true, cond_false, Bool.and_true, Bool.true_and, w64, wu32, wu8, nble_t, nblt_t, Bool.not_true, Bool.not_false, Bool.not_not, ieq_t, ieq_f, ine_t, ine_f, true_and, and_true, andT_l]
  by_cases h2 : pl.length ≤ 3000
  rotate_left
  · simp (disch := omega) only [dec_t, dec_f, inB_t, inC_t, andT_t, cond_true, cond_false, Bool.and_true, Bool.true_and, w64, wu32, wu8, nble_t, nblt_t, Bool.not_true, Bool.not_false, Bool.not_not, ieq_t, ieq_f, ine_t, ine_f, true_and, and_true, andT_l]
  by_cases h3 : body.length ≤ 3000
  rotate_left
  · simp (disch := omega) only [dec_t, dec_f, inB_t, inC_t, andT_t, cond_true, cond_false, Bool.and_true, Bool.true_and, w64, wu32, wu8, nble_t, nblt_t, Bool.not_true, Bool.not_false, Bool.not_not, ieq_t, ieq_f, ine_t, ine_f, true_and, and_true, andT_l]
  have key : (bif piE s d kd cd wd body == (0 : Int) then
      bif pqE (piB s d kd cd wd body) != (0 : Int) then some (V.bool false)
      else bif (pqX (piB s d kd cd wd body)).k != (58 : Int) then some (V.bool false)
        else bif !(pqX (piB s d kd cd wd body)).h.s == s then some (V.bool false)
          else bif !(pqX (piB s d kd cd wd body)).fin == d then some (V.bool false)
            else bif !smB (pqX (piB s d kd cd wd body)).mk_ (pqX (piB s d kd cd wd body)).mc (pqX (piB s d kd cd wd body)).mw (pqX (piB s d kd cd wd body)).mb kd cd wd body then some (V.bool false)
              else bif decide (((piB s d kd cd wd body).length : Int) > (1500 : Int)) then some (V.bool false) else some (V.bool true)
      else some (V.bool true)) = some (V.bool true) := by
    by_cases h5 : piE s d kd cd wd body = 0
    · obtain ⟨q1, q2, q3, q4, ⟨q5, q6, q7, q8⟩, q9, _⟩ := pi_back h5 hs hd hwd0 (by omega)
      rw [h5, q1, q2, q3, q4, q5, q6, q7, q8, smB_refl]
      simp only [beq_self_eq_true]
      simp (disch := omega) only [dec_t, dec_f, inB_t, inC_t, andT_t, cond_true, cond_false, Bool.and_true, Bool.true_and, w64, wu32, wu8, nble_t, nblt_t, Bool.not_true, Bool.not_false, Bool.not_not, ieq_t, ieq_f, ine_t, ine_f, true_and, and_true, andT_l]
    · simp (disch := omega) only [dec_t, dec_f, inB_t, inC_t, andT_t, cond_true, cond_false, Bool.and_true, Bool.true_and, w64, wu32, wu8, nble_t, nblt_t, Bool.not_true, Bool.not_false, Bool.not_not, ieq_t, ieq_f, ine_t, ine_f, true_and, and_true, andT_l]
  rw [key]
  by_cases h4 : pkE s d ⟨sp, dp, sq, ak, fl, wn, sm, ug, op, pl⟩ = 0
  · obtain ⟨q0, q1, q2, q3, q4, q5, q6, _⟩ := pk_back h4 hs hd ⟨hsq0, by show sq ≤ _; omega⟩ ⟨hak0, by show ak ≤ _; omega⟩ (tlV_tls qop)
    have eS : tcS s d ⟨sp, dp, sq, ak, fl, wn, sm, ug, op, pl⟩ = ⟨sp, dp, sq, ak, fl, wn, chk s d 6 (tcP ⟨sp, dp, sq, ak, fl, wn, 0, ug, op, pl⟩), ug, op, pl⟩ := by unfold tcS; rw [if_pos q0]
    have e1 : ∀ x : Tc, eqTc x x = true := fun x => eqTc_iff.2 rfl
    rw [eS] at q5
    rw [h4, q1, q2, q3, q4, q5, e1]
    simp only [beq_self_eq_true]
    simp (disch := omega) only [dec_t, dec_f, inB_t, inC_t, andT_t, cond_true, cond_false, Bool.and_true, Bool.true_and, w64, wu32, wu8, nble_t, nblt_t, Bool.not_true, Bool.not_false, Bool.not_not, ieq_t, ieq_f, ine_t, ine_f, true_and, and_true, andT_l]
  · simp (disch := omega) only [dec_t, dec_f, inB_t, inC_t, andT_t, cond_true, cond_false, Bool.and_true, Bool.true_and, w64, wu32, wu8, nble_t, nblt_t, Bool.not_true, Bool.not_false, Bool.not_not, ieq_t, ieq_f, ine_t, ine_f, true_and, and_true, andT_l]
end Go.Proofs.Ytbojofchpnfnlaa
