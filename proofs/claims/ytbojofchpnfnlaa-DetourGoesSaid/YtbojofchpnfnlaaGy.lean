/- Part Gy of the proof: laws used by the law of this claim. -/
import Derived.Test.YtbojofchpnfnlaaGt
set_option linter.all false
namespace Go.Proofs.Ytbojofchpnfnlaa
open Go Go.Am Go.RowKit Go.Mix Go.Bas
set_option maxRecDepth 100000
theorem gt_set {l : List UInt8} {i j : Nat} {v : UInt8} (h : j ≠ i) : gt (l.set i v) j = gt l j := by
  unfold gt
  simp only [List.getD_eq_getElem?_getD]
  rw [List.getElem?_set_ne (Ne.symm h)]
theorem gt_set_self {l : List UInt8} {i : Nat} {v : UInt8} (h : i < l.length) : gt (l.set i v) i = (v.toNat : Int) := by
  unfold gt
  simp only [List.getD_eq_getElem?_getD]
  rw [List.getElem?_set_self h]
  rfl
theorem drop_set {l : List UInt8} {i k : Nat} {v : UInt8} (h : k < i) : (l.set k v).drop i = l.drop i := by
  rw [List.drop_set]
  rw [if_pos h]
theorem cutL_set {l : List UInt8} {k i j : Nat} {v : UInt8} (h : k < i) : cutL (l.set k v) i j = cutL l i j := by
  unfold cutL
  rw [drop_set h]
theorem shN_set (t : List UInt8) (v : UInt8) : shN (t.set 3 v) = shN t := by unfold shN; rw [gt_set (by decide)]
theorem shL_set (t : List UInt8) (v : UInt8) : shL (t.set 3 v) = shL t := by unfold shL; rw [gt_set (by decide)]
theorem shT_set (t : List UInt8) (v : UInt8) : shT (t.set 3 v) = shT t := by
  unfold shT
  rw [shN_set, shL_set, cutL_set (by omega)]
theorem sgL_set (t : List UInt8) (v : UInt8) (n : Nat) : sgL (t.set 3 v) n = sgL t n := by
  unfold sgL
  apply List.map_congr_left
  intro k _
  rw [cutL_set (by omega)]
theorem shE_set {t : List UInt8} {v : UInt8} (h : shE t = 0) (hv : ((v.toNat : Nat) : Int) < shN t) : shE (t.set 3 v) = 0 := by
  obtain ⟨k1, k2, k3, k4, k5⟩ := shE_zero h
  unfold shE at h ⊢
  rw [shN_set, shL_set, shT_set, gt_set (by decide), gt_set_self (by omega), List.length_set]
  split at h; · cases h
  split at h; · cases h
  split at h; · cases h
  split at h; · cases h
  split at h; · cases h
  split at h; · cases h
  rename_i a1 a2 a3 a4 a5 a6
  rw [if_neg a1, if_neg a2, if_neg a3, if_neg a4, if_neg a5, if_neg (by omega)]
  exact h
/-- who a packet goes to, so many segments on -/
def dsT (b : List UInt8) (s : List V) (i : Nat) : List UInt8 := toA ((s ++ [V.barr 16 (gD b)]).getD i .undef)
/-- the packet without its routing header, so many hops on -/
def wtB (b : List UInt8) (i : Nat) : List UInt8 := hdX (gC b) (gLa b) (gLn b) (gNx b) (gHp b - i) (gS b) (gD b) ++ b.drop 40
structure GoF (b : List UInt8) (s : List V) (i : Nat) (x : List UInt8) : Prop where
  hd : HdF x (gC b) (gLa b) ((x.length : Int) - 40) 43 (gHp b - i) (gS b) (dsT b s i) (x.drop 40)
  r0 : rtE x = 0
  n : sN (x.drop 40) = gNx b
  left : sL (x.drop 40) = (s.length : Int) - i
  sg : sS (x.drop 40) = viaR b s
  z : sZ (x.drop 40) = (inX b s []).length
  l : x.length = b.length + (inX b s []).length
  q : x.drop (40 + (inX b s []).length) = b.drop 40
theorem dsT_16 {b : List UInt8} {s : List V} (hok : okS s = true) {i : Nat} (hi : i ≤ s.length) : (dsT b s i).length = 16 := by
  have h : okS (s ++ [V.barr 16 (gD b)]) = true := by
    have := okS_app (x := gD b) hok (gD_16 b)
    unfold okS at this ⊢
    rwa [List.all_reverse] at this
  exact ok_get h (by simp; omega)
theorem goF_0 {b : List UInt8} {s : List V} (h : inE b s [] = 0) (f : BkF b s [] (inB b s [])) : GoF b s 0 (inB b s []) := by
  have g := inF h
  have h1 := g.s1
  refine ⟨?_, f.r0, f.n, by rw [f.left]; omega, f.sg, f.z, f.l, ?_⟩
  · have e : dsT b s 0 = toA (s.getD 0 .undef) := by
      unfold dsT
      match s, h1 with
      | x :: r, _ => rfl
    have := f.hd
    rw [this.q, e]
    simpa using this
  · rw [← List.drop_drop, f.hd.q, List.drop_left]
theorem go_rm {b : List UInt8} {s : List V} {i : Nat} {x : List UInt8} (h0 : hdE b = 0) (f : GoF b s i x) : rmB x = wtB b i := by
  have hE := (hdE_zero h0).1
  have h40 := gE_40 hE
  have hln := (hdE_zero h0).2
  unfold rmB wtB
  rw [if_pos f.r0, f.hd.c, f.hd.la, f.hd.hp, f.hd.s, f.n, f.sg, f.z, viaR_0]
  have e1 : (x.length : Int) - 40 - ((inX b s []).length : Int) = gLn b := by rw [f.l]; omega
  rw [e1, show (40 + ((inX b s []).length : Int)).toNat = 40 + (inX b s []).length by omega, f.q]
  rfl
theorem viaR_get (b : List UInt8) (s : List V) {i : Nat} (hi : i < s.length) : toA ((viaR b s).getD (s.length - i - 1) .undef) = dsT b s (i + 1) := by
  unfold viaR dsT
  congr 1
  simp only [List.getD_eq_getElem?_getD]
  rw [List.getElem?_reverse (by simp; omega)]
  congr 2
  simp
  omega
theorem go_next {b : List UInt8} {s : List V} {i : Nat} {x : List UInt8} (h : inE b s [] = 0) (hok : okS s = true) (f : GoF b s i x) (hi : i < s.length) (hh : (s.length : Int) < gHp b) : avE x = 0 ∧ GoF b s (i + 1) (avB x) := by
  have g := inF h
  have hE := (hdE_zero g.h0).1
  have h40 := gE_40 hE
  have hln := (hdE_zero g.h0).2
  have gl := g.l
  have s9 := g.s9
  have hb := g_bds b
  have fl := f.l
  have e0 : avE x = 0 := by
    unfold avE
    rw [if_pos f.r0, if_pos (by rw [f.left]; omega), if_pos (by rw [f.hd.hp]; omega)]
  have r := rtF f.r0
  have hlo := r.lo
  have e3 : toA ((sS (x.drop 40)).getD (sL (x.drop 40) - 1).toNat .undef) = dsT b s (i + 1) := by
    rw [f.sg, f.left, show ((s.length : Int) - i - 1).toNat = s.length - i - 1 by omega, viaR_get b s hi]
  have ht : (x.drop 40).length = x.length - 40 := List.length_drop ..
  have hd40 := hdX_40 (c := gC b) (la := gLa b) (ln := (x.length : Int) - 40) (nx := 43) (hp := gHp b - i - 1) (s := gS b) (d := dsT b s (i + 1)) ⟨by omega, by omega, by omega, by omega, by omega⟩ (gS_16 b) (dsT_16 hok hi)
  have eB : avB x = hdX (gC b) (gLa b) ((x.length : Int) - 40) 43 (gHp b - i - 1) (gS b) (dsT b s (i + 1)) ++ (x.drop 40).set 3 (b8 ((s.length : Int) - i - 1)) := by
    unfold avB
    rw [if_pos e0, e3, f.hd.c, f.hd.la, f.hd.nx, f.hd.hp, f.hd.s, f.left, List.set_append_right _ _ (by omega), hd40]
  have hv : (((b8 ((s.length : Int) - i - 1)).toNat : Nat) : Int) = (s.length : Int) - i - 1 := (b8_toNat _).trans (by omega)
  have hdx := hd_back (c := gC b) (la := gLa b) (ln := (x.length : Int) - 40) (nx := 43) (hp := gHp b - i - 1) (s := gS b) (d := dsT b s (i + 1)) ⟨by omega, by omega, by omega, by omega, by omega⟩ (gS_16 b) (dsT_16 hok hi) ((x.drop 40).set 3 (b8 ((s.length : Int) - i - 1)))
  rw [← eB] at hdx
  have hl : (avB x).length = x.length := by rw [hdx.l, List.length_set, ht]; omega
  have hN : shN (x.drop 40) = s.length + 1 := by
    have := r.sl
    rw [f.sg] at this
    rw [← this]; simp [viaR]
  have hsh := shE_set (v := b8 ((s.length : Int) - i - 1)) r.e0 (by rw [hv, hN]; omega)
  have hdE0 : hdE (avB x) = 0 := by unfold hdE; rw [if_pos hdx.e, if_pos (by rw [hdx.ln, hl])]
  have hr0 : rtE (avB x) = 0 := by unfold rtE; rw [if_pos hdE0, if_pos hdx.nx, hdx.q, hsh]
  have z1 : ∀ y, zI (shE (x.drop 40)) y = y := fun y => if_pos r.e0
  have z2 : ∀ y, zV (shE (x.drop 40)) y = y := fun y => if_pos r.e0
  refine ⟨e0, ?_, hr0, ?_, ?_, ?_, ?_, by rw [hl, fl], ?_⟩
  · have := hdx
    rw [← this.q] at this
    rw [hl]
    have e : gHp b - ((i + 1 : Nat) : Int) = gHp b - i - 1 := by omega
    rw [e]
    exact this
  · have := f.n
    rw [hdx.q]; unfold sN at this ⊢
    rw [hsh, gt_set (by decide)]
    rw [z1] at this
    exact this
  · rw [hdx.q]; unfold sL
    rw [hsh, gt_set_self (by omega), hv]
    show (s.length : Int) - i - 1 = _
    omega
  · have := f.sg
    rw [hdx.q]; unfold sS at this ⊢
    rw [hsh, shN_set, sgL_set]
    rw [z2] at this
    exact this
  · have := f.z
    rw [hdx.q]; unfold sZ at this ⊢
    rw [hsh, shL_set]
    rw [z1] at this
    exact this
  · rw [← List.drop_drop, hdx.q, drop_set (by have := r.z8; have := r.z; have := f.z; omega), List.drop_drop, f.q]
theorem go_last {b : List UInt8} {s : List V} {x : List UInt8} (f : GoF b s s.length x) : avE x = 10 := by
  unfold avE
  rw [if_pos f.r0, if_neg (by rw [f.left]; omega)]
theorem go_near {b : List UInt8} {i : Nat} (h0 : hdE b = 0) (hi : (i : Int) + 1 < gHp b) : nrB (wtB b i) = wtB b (i + 1) := by
  have hE := (hdE_zero h0).1
  have hb := g_bds b
  have f := hd_back (c := gC b) (la := gLa b) (ln := gLn b) (nx := gNx b) (hp := gHp b - i) (s := gS b) (d := gD b) ⟨by omega, by omega, by omega, by omega, by omega⟩ (gS_16 b) (gD_16 b) (b.drop 40)
  have e : nrE (wtB b i) = 0 := by
    unfold nrE wtB
    rw [if_pos f.e, f.hp, if_neg (by omega)]
  unfold nrB
  rw [if_pos e]
  unfold wtB
  rw [f.c, f.la, f.ln, f.nx, f.hp, f.s, f.d, f.q]
  congr 2
  omega
end Go.Proofs.Ytbojofchpnfnlaa

namespace Go.Proofs.Ytbojofchpnfnlaa
open Go Go.Am Go.RowKit Go.Mix Go.Bas
set_option maxRecDepth 100000
def goN : Nat → List UInt8 → List UInt8
  | 0, x => x
  | n + 1, x => goN n (avB x)
structure GoP (b : List UInt8) (s : List V) (i : Int) (x w d : List UInt8) : Prop where
  e0 : inE b s [] = 0
  ok : okS s = true
  b16 : isB16 s = true
  hp : (s.length : Int) < gHp b
  d0 : d = gD b
  i0 : 0 ≤ i
  i1 : i ≤ s.length + 1
  go : i ≤ s.length → GoF b s i.toNat x ∧ w = wtB b i.toNat
  la : i = s.length + 1 → avE x = 10
  xl : x.length ≤ 1500
noncomputable def goB (b : List UInt8) (s : List V) (i : Int) (x w d : List UInt8) : Bool := @decide (GoP b s i x w d) (Classical.propDecidable _)
theorem goB_p {b : List UInt8} {s : List V} {i : Int} {x w d : List UInt8} (h : goB b s i x w d = true) : GoP b s i x w d := @of_decide_eq_true _ (Classical.propDecidable _) h
theorem goB_t {b : List UInt8} {s : List V} {i : Int} {x w d : List UInt8} (h : GoP b s i x w d) : goB b s i x w d = true := @decide_eq_true _ (Classical.propDecidable _) h
def gsA (h : H6) (b : List UInt8) (s : List V) (x w : List UInt8) (i : Int) : S := ⟨[(10, .int .i64 i), (1, .rows (.barr 16) s), (5, .ref 0 [] 0 shH6), (7, .own 1 x.length (.int .u8)), (9, .bytes w), (0, .bytes b)], [(0, some (.var shH6 h.v)), (1, some (.row 5 (.int .u8) (.bytes x)))], 2, true, 112⟩
def gsB (h : H6) (b : List UInt8) (s : List V) (x w : List UInt8) (i : Int) : S := ⟨[(10, .int .i64 i), (1, .rows (.barr 16) s), (5, .ref 0 [] 0 shH6), (7, .own 1 x.length (.int .u8)), (9, .own 2 w.length (.int .u8)), (0, .bytes b)], [(0, some (.var shH6 h.v)), (1, some (.row 5 (.int .u8) (.bytes x))), (2, some (.row 5 (.int .u8) (.bytes w)))], 3, true, 112⟩
def gsX (x : List UInt8) : S := ⟨[(7, .own 0 x.length (.int .u8))], [(0, some (.row 5 (.int .u8) (.bytes x)))], 1, true, 112⟩
noncomputable def gsGA : S → Option (Bool × Tr) := gOf 112 2 fun sl hp => match sl 10, sl 1, sl 5, sl 7, sl 9, sl 0, hp 0, hp 1 with
  | some (.int .i64 i), some (.rows (.barr 16) s), some (.ref 0 [] 0 (.agg [.int .i64, .int .i64, .int .i64, .int .i64, .int .i64, .barr 16, .barr 16])), some (.own 1 n (.int .u8)), some (.bytes w), some (.bytes b),
    some (.var (.agg [.int .i64, .int .i64, .int .i64, .int .i64, .int .i64, .barr 16, .barr 16]) (.agg [.int .i64 hc, .int .i64 hla, .int .i64 hln, .int .i64 hnx, .int .i64 hhp, .barr 16 hs, .barr 16 hd])),
    some (.row T (.int .u8) (.bytes x)) => some (decide (n = x.length ∧ T = 5) && goB b s i x w hd, .leaf (.exit 0) (gsX (goN (s.length - i.toNat) x)))
  | _, _, _, _, _, _, _, _ => none
noncomputable def gsGB : S → Option (Bool × Tr) := gOf 112 3 fun sl hp => match sl 10, sl 1, sl 5, sl 7, sl 9, sl 0, hp 0, hp 1, hp 2 with
  | some (.int .i64 i), some (.rows (.barr 16) s), some (.ref 0 [] 0 (.agg [.int .i64, .int .i64, .int .i64, .int .i64, .int .i64, .barr 16, .barr 16])), some (.own 1 n (.int .u8)), some (.own 2 m (.int .u8)), some (.bytes b),
    some (.var (.agg [.int .i64, .int .i64, .int .i64, .int .i64, .int .i64, .barr 16, .barr 16]) (.agg [.int .i64 hc, .int .i64 hla, .int .i64 hln, .int .i64 hnx, .int .i64 hhp, .barr 16 hs, .barr 16 hd])),
    some (.row T (.int .u8) (.bytes x)), some (.row T' (.int .u8) (.bytes w)) => some (decide (n = x.length ∧ T = 5 ∧ m = w.length ∧ T' = 5) && goB b s i x w hd, .leaf (.exit 0) (gsX (goN (s.length - i.toNat) x)))
  | _, _, _, _, _, _, _, _, _ => none
noncomputable def gsG : S → Option (Bool × Tr) := fun s => bif Nat.beq s.nx 2 then gsGA s else gsGB s
noncomputable def af_DetourGoes : AF := afOf Try.prog Try.f11 [.sum [10, 1, 5, 7, 9, 0] [] gsG]
noncomputable def gsC : AC := (af_DetourGoes.ac.sums.headD (.skip, [], [], fun _ => none)).1
noncomputable def GEdtq : List (Nat × Con) := [(32, .val [] cLives11), (42, .val [.bytes] cSxGet), (35, .val [.bytes] cRem), (39, .val [.bytes] cAdv), (33, .val [.bytes, .rows (.barr 16), .rows (.agg [.int .i64, .bytes])] cIns), (43, .val [.bytes] cSxNer)]
theorem GEdtq_ok : GOk Try.prog GEdtq := .cons (enters_of Try.func32 (by kernel_rfl) rfl) lives11_con <| .cons (enters_of Try.func42 (by kernel_rfl) rfl) rSxGet_con <| .cons (enters_of Try.func35 (by kernel_rfl) rfl) dtRem2_con <| .cons (enters_of Try.func39 (by kernel_rfl) rfl) dtAdv2_con <| .cons (enters_of Try.func33 (by kernel_rfl) rfl) dtIns2_con <| .cons (enters_of Try.func43 (by kernel_rfl) rfl) rSxNer_con <| .nil
noncomputable def IEdtq : List (Nat × AF) := []
theorem IEdtq_ok : IOk Try.prog IEdtq := .nil
noncomputable def CEdtq : List (Nat × (List Nat × (S → Option S))) := []
theorem CEdtq_ok : COk Try.prog CEdtq := .nil
noncomputable def XEdtq : List (Nat × (List Sh × (List V → PT))) := []
theorem XEdtq_ok : XOk Try.prog XEdtq := .nil
noncomputable def Edtq : Env := ⟨Try.prog, GEdtq, IEdtq, CEdtq, XEdtq⟩
theorem Edtq_ok : EnvOk Edtq := ⟨by kernel_rfl, GEdtq_ok, IEdtq_ok, CEdtq_ok, XEdtq_ok⟩
theorem gs_a (h : H6) (b : List UInt8) (s : List V) (x w : List UInt8) (i : Int) : aev Edtq (inlN Edtq 6) gsC (bodyF (Am.ways [10, 1, 5, 7, 9, 0] [7] [4]) []) (gsA h b s x w i) =
 bif decide (i ≤ (↑s.length : Int)) then
 bif decide (i < (↑s.length : Int)) then
 bif andT true (Am.inB i s.length) then
 bif andT true (decide (x.length ≤ (140737488352000 : Nat))) then
 bif !gD x == toA (s.getD i.toNat V.undef) then
 some
                  (Ex.ret, { sl := [((4 : Nat), V.bool false)], hp := [], nx := (0 : Nat), ob := true, n := (112 : Nat) })
 else
 bif rtE x != (0 : Int) then
 some
                    (Ex.ret, { sl := [((4 : Nat), V.bool false)], hp := [], nx := (0 : Nat), ob := true, n := (112 : Nat) })
 else
 bif !rmB x == w then
 some
 (Ex.ret,
                        { sl := [((4 : Nat), V.bool false)], hp := [], nx := (0 : Nat), ob := true, n := (112 : Nat) })
 else
 bif decide (i < (↑s.length : Int)) then
 bif andT true (decide (x.length ≤ (140737488352000 : Nat))) then
 bif andT true (decide (w.length ≤ (140737488352000 : Nat))) then
 bif avE x != (0 : Int) then
 some
 (Ex.ret,
                                { sl := [((4 : Nat), V.bool false)], hp := [], nx := (0 : Nat), ob := true,
                                  n := (112 : Nat) })
 else
 some
 (Ex.normal,
                                {
                                  sl :=
                                    [((10 : Nat), V.int IntKind.i64 (IntKind.i64.wrap (i + (1 : Int)))),
                                      ((1 : Nat), V.rows (Sh.barr (16 : Nat)) s),
                                      ((5 : Nat),
                                        V.ref (0 : Nat) [] (0 : Nat)
                                          (Sh.agg
                                            [Sh.int IntKind.i64, Sh.int IntKind.i64, Sh.int IntKind.i64, Sh.int IntKind.i64,
                                              Sh.int IntKind.i64, Sh.barr (16 : Nat), Sh.barr (16 : Nat)])),
                                      ((7 : Nat), V.own (1 : Nat) (avB x).length (Sh.int IntKind.u8)),
                                      ((9 : Nat), V.own (2 : Nat) (nrB w).length (Sh.int IntKind.u8)),
                                      ((0 : Nat), V.bytes b)],
                                  hp :=
                                    [((0 : Nat),
                                        some
                                          (Blk.var
                                            (Sh.agg
                                              [Sh.int IntKind.i64, Sh.int IntKind.i64, Sh.int IntKind.i64,
                                                Sh.int IntKind.i64, Sh.int IntKind.i64, Sh.barr (16 : Nat),
                                                Sh.barr (16 : Nat)])
                                            (V.agg
                                              [V.int IntKind.i64 h.1, V.int IntKind.i64 h.2, V.int IntKind.i64 h.3,
                                                V.int IntKind.i64 h.4, V.int IntKind.i64 h.5, V.barr (16 : Nat) h.6,
                                                V.barr (16 : Nat) h.7]))),
                                      ((1 : Nat), some (Blk.row (5 : Nat) (Sh.int IntKind.u8) (V.bytes (avB x)))),
                                      ((2 : Nat), some (Blk.row (5 : Nat) (Sh.int IntKind.u8) (V.bytes (nrB w))))],
                                  nx := (3 : Nat), ob := true, n := (112 : Nat) })
 else none
 else none
 else
 some
 (Ex.normal,
                          {
                            sl :=
                              [((10 : Nat), V.int IntKind.i64 (IntKind.i64.wrap (i + (1 : Int)))),
                                ((1 : Nat), V.rows (Sh.barr (16 : Nat)) s),
                                ((5 : Nat),
                                  V.ref (0 : Nat) [] (0 : Nat)
                                    (Sh.agg
                                      [Sh.int IntKind.i64, Sh.int IntKind.i64, Sh.int IntKind.i64, Sh.int IntKind.i64,
                                        Sh.int IntKind.i64, Sh.barr (16 : Nat), Sh.barr (16 : Nat)])),
                                ((7 : Nat), V.own (1 : Nat) x.length (Sh.int IntKind.u8)), ((9 : Nat), V.bytes w),
                                ((0 : Nat), V.bytes b)],
                            hp :=
                              [((0 : Nat),
                                  some
                                    (Blk.var
                                      (Sh.agg
                                        [Sh.int IntKind.i64, Sh.int IntKind.i64, Sh.int IntKind.i64, Sh.int IntKind.i64,
                                          Sh.int IntKind.i64, Sh.barr (16 : Nat), Sh.barr (16 : Nat)])
                                      (V.agg
                                        [V.int IntKind.i64 h.1, V.int IntKind.i64 h.2, V.int IntKind.i64 h.3,
                                          V.int IntKind.i64 h.4, V.int IntKind.i64 h.5, V.barr (16 : Nat) h.6,
                                          V.barr (16 : Nat) h.7]))),
                                ((1 : Nat), some (Blk.row (5 : Nat) (Sh.int IntKind.u8) (V.bytes x)))],
                            nx := (2 : Nat), ob := true, n := (112 : Nat) })
 else none
 else none
 else
 bif andT true (decide (x.length ≤ (140737488352000 : Nat))) then
 bif !gD x == h.7 then
              some (Ex.ret, { sl := [((4 : Nat), V.bool false)], hp := [], nx := (0 : Nat), ob := true, n := (112 : Nat) })
 else
 bif rtE x != (0 : Int) then
 some
                  (Ex.ret, { sl := [((4 : Nat), V.bool false)], hp := [], nx := (0 : Nat), ob := true, n := (112 : Nat) })
 else
 bif !rmB x == w then
 some
                    (Ex.ret, { sl := [((4 : Nat), V.bool false)], hp := [], nx := (0 : Nat), ob := true, n := (112 : Nat) })
 else
 bif decide (i < (↑s.length : Int)) then
 bif andT true (decide (x.length ≤ (140737488352000 : Nat))) then
 bif andT true (decide (w.length ≤ (140737488352000 : Nat))) then
 bif avE x != (0 : Int) then
 some
 (Ex.ret,
                              { sl := [((4 : Nat), V.bool false)], hp := [], nx := (0 : Nat), ob := true,
                                n := (112 : Nat) })
 else
 some
 (Ex.normal,
                              {
                                sl :=
                                  [((10 : Nat), V.int IntKind.i64 (IntKind.i64.wrap (i + (1 : Int)))),
                                    ((1 : Nat), V.rows (Sh.barr (16 : Nat)) s),
                                    ((5 : Nat),
                                      V.ref (0 : Nat) [] (0 : Nat)
                                        (Sh.agg
                                          [Sh.int IntKind.i64, Sh.int IntKind.i64, Sh.int IntKind.i64, Sh.int IntKind.i64,
                                            Sh.int IntKind.i64, Sh.barr (16 : Nat), Sh.barr (16 : Nat)])),
                                    ((7 : Nat), V.own (1 : Nat) (avB x).length (Sh.int IntKind.u8)),
                                    ((9 : Nat), V.own (2 : Nat) (nrB w).length (Sh.int IntKind.u8)),
                                    ((0 : Nat), V.bytes b)],
                                hp :=
                                  [((0 : Nat),
                                      some
                                        (Blk.var
                                          (Sh.agg
                                            [Sh.int IntKind.i64, Sh.int IntKind.i64, Sh.int IntKind.i64, Sh.int IntKind.i64,
                                              Sh.int IntKind.i64, Sh.barr (16 : Nat), Sh.barr (16 : Nat)])
                                          (V.agg
                                            [V.int IntKind.i64 h.1, V.int IntKind.i64 h.2, V.int IntKind.i64 h.3,
                                              V.int IntKind.i64 h.4, V.int IntKind.i64 h.5, V.barr (16 : Nat) h.6,
                                              V.barr (16 : Nat) h.7]))),
                                    ((1 : Nat), some (Blk.row (5 : Nat) (Sh.int IntKind.u8) (V.bytes (avB x)))),
                                    ((2 : Nat), some (Blk.row (5 : Nat) (Sh.int IntKind.u8) (V.bytes (nrB w))))],
                                nx := (3 : Nat), ob := true, n := (112 : Nat) })
 else none
 else none
 else
 some
 (Ex.normal,
                        {
                          sl :=
                            [((10 : Nat), V.int IntKind.i64 (IntKind.i64.wrap (i + (1 : Int)))),
                              ((1 : Nat), V.rows (Sh.barr (16 : Nat)) s),
                              ((5 : Nat),
                                V.ref (0 : Nat) [] (0 : Nat)
                                  (Sh.agg
                                    [Sh.int IntKind.i64, Sh.int IntKind.i64, Sh.int IntKind.i64, Sh.int IntKind.i64,
                                      Sh.int IntKind.i64, Sh.barr (16 : Nat), Sh.barr (16 : Nat)])),
                              ((7 : Nat), V.own (1 : Nat) x.length (Sh.int IntKind.u8)), ((9 : Nat), V.bytes w),
                              ((0 : Nat), V.bytes b)],
                          hp :=
                            [((0 : Nat),
                                some
                                  (Blk.var
                                    (Sh.agg
                                      [Sh.int IntKind.i64, Sh.int IntKind.i64, Sh.int IntKind.i64, Sh.int IntKind.i64,
                                        Sh.int IntKind.i64, Sh.barr (16 : Nat), Sh.barr (16 : Nat)])
                                    (V.agg
                                      [V.int IntKind.i64 h.1, V.int IntKind.i64 h.2, V.int IntKind.i64 h.3,
                                        V.int IntKind.i64 h.4, V.int IntKind.i64 h.5, V.barr (16 : Nat) h.6,
                                        V.barr (16 : Nat) h.7]))),
                              ((1 : Nat), some (Blk.row (5 : Nat) (Sh.int IntKind.u8) (V.bytes x)))],
                          nx := (2 : Nat), ob := true, n := (112 : Nat) })
 else none
 else
 some
 (Ex.exit (0 : Nat),
            { sl := [((7 : Nat), V.own (0 : Nat) x.length (Sh.int IntKind.u8))],
              hp := [((0 : Nat), some (Blk.row (5 : Nat) (Sh.int IntKind.u8) (V.bytes x)))], nx := (1 : Nat), ob := true,
              n := (112 : Nat) }) := by kernel_rfl

theorem gs_b (h : H6) (b : List UInt8) (s : List V) (x w : List UInt8) (i : Int) : aev Edtq (inlN Edtq 6) gsC (bodyF (Am.ways [10, 1, 5, 7, 9, 0] [7] [4]) []) (gsB h b s x w i) =
 bif decide (i ≤ (↑s.length : Int)) then
 bif decide (i < (↑s.length : Int)) then
 bif andT true (Am.inB i s.length) then
 bif andT true (decide (x.length ≤ (140737488352000 : Nat))) then
 bif !gD x == toA (s.getD i.toNat V.undef) then
 some
                  (Ex.ret, { sl := [((4 : Nat), V.bool false)], hp := [], nx := (0 : Nat), ob := true, n := (112 : Nat) })
 else
 bif rtE x != (0 : Int) then
 some
                    (Ex.ret, { sl := [((4 : Nat), V.bool false)], hp := [], nx := (0 : Nat), ob := true, n := (112 : Nat) })
 else
 bif !rmB x == w then
 some
 (Ex.ret,
                        { sl := [((4 : Nat), V.bool false)], hp := [], nx := (0 : Nat), ob := true, n := (112 : Nat) })
 else
 bif decide (i < (↑s.length : Int)) then
 bif andT true (decide (x.length ≤ (140737488352000 : Nat))) then
 bif andT true (decide (w.length ≤ (140737488352000 : Nat))) then
 bif avE x != (0 : Int) then
 some
 (Ex.ret,
                                { sl := [((4 : Nat), V.bool false)], hp := [], nx := (0 : Nat), ob := true,
                                  n := (112 : Nat) })
 else
 some
 (Ex.normal,
                                {
                                  sl :=
                                    [((10 : Nat), V.int IntKind.i64 (IntKind.i64.wrap (i + (1 : Int)))),
                                      ((1 : Nat), V.rows (Sh.barr (16 : Nat)) s),
                                      ((5 : Nat),
                                        V.ref (0 : Nat) [] (0 : Nat)
                                          (Sh.agg
                                            [Sh.int IntKind.i64, Sh.int IntKind.i64, Sh.int IntKind.i64, Sh.int IntKind.i64,
                                              Sh.int IntKind.i64, Sh.barr (16 : Nat), Sh.barr (16 : Nat)])),
                                      ((7 : Nat), V.own (1 : Nat) (avB x).length (Sh.int IntKind.u8)),
                                      ((9 : Nat), V.own (2 : Nat) (nrB w).length (Sh.int IntKind.u8)),
                                      ((0 : Nat), V.bytes b)],
                                  hp :=
                                    [((0 : Nat),
                                        some
                                          (Blk.var
                                            (Sh.agg
                                              [Sh.int IntKind.i64, Sh.int IntKind.i64, Sh.int IntKind.i64,
                                                Sh.int IntKind.i64, Sh.int IntKind.i64, Sh.barr (16 : Nat),
                                                Sh.barr (16 : Nat)])
                                            (V.agg
                                              [V.int IntKind.i64 h.1, V.int IntKind.i64 h.2, V.int IntKind.i64 h.3,
                                                V.int IntKind.i64 h.4, V.int IntKind.i64 h.5, V.barr (16 : Nat) h.6,
                                                V.barr (16 : Nat) h.7]))),
                                      ((1 : Nat), some (Blk.row (5 : Nat) (Sh.int IntKind.u8) (V.bytes (avB x)))),
                                      ((2 : Nat), some (Blk.row (5 : Nat) (Sh.int IntKind.u8) (V.bytes (nrB w))))],
                                  nx := (3 : Nat), ob := true, n := (112 : Nat) })
 else none
 else none
 else
 some
 (Ex.normal,
                          {
                            sl :=
                              [((10 : Nat), V.int IntKind.i64 (IntKind.i64.wrap (i + (1 : Int)))),
                                ((1 : Nat), V.rows (Sh.barr (16 : Nat)) s),
                                ((5 : Nat),
                                  V.ref (0 : Nat) [] (0 : Nat)
                                    (Sh.agg
                                      [Sh.int IntKind.i64, Sh.int IntKind.i64, Sh.int IntKind.i64, Sh.int IntKind.i64,
                                        Sh.int IntKind.i64, Sh.barr (16 : Nat), Sh.barr (16 : Nat)])),
                                ((7 : Nat), V.own (1 : Nat) x.length (Sh.int IntKind.u8)),
                                ((9 : Nat), V.own (2 : Nat) w.length (Sh.int IntKind.u8)), ((0 : Nat), V.bytes b)],
                            hp :=
                              [((0 : Nat),
                                  some
                                    (Blk.var
                                      (Sh.agg
                                        [Sh.int IntKind.i64, Sh.int IntKind.i64, Sh.int IntKind.i64, Sh.int IntKind.i64,
                                          Sh.int IntKind.i64, Sh.barr (16 : Nat), Sh.barr (16 : Nat)])
                                      (V.agg
                                        [V.int IntKind.i64 h.1, V.int IntKind.i64 h.2, V.int IntKind.i64 h.3,
                                          V.int IntKind.i64 h.4, V.int IntKind.i64 h.5, V.barr (16 : Nat) h.6,
                                          V.barr (16 : Nat) h.7]))),
                                ((1 : Nat), some (Blk.row (5 : Nat) (Sh.int IntKind.u8) (V.bytes x))),
                                ((2 : Nat), some (Blk.row (5 : Nat) (Sh.int IntKind.u8) (V.bytes w)))],
                            nx := (3 : Nat), ob := true, n := (112 : Nat) })
 else none
 else none
 else
 bif andT true (decide (x.length ≤ (140737488352000 : Nat))) then
 bif !gD x == h.7 then
              some (Ex.ret, { sl := [((4 : Nat), V.bool false)], hp := [], nx := (0 : Nat), ob := true, n := (112 : Nat) })
 else
 bif rtE x != (0 : Int) then
 some
                  (Ex.ret, { sl := [((4 : Nat), V.bool false)], hp := [], nx := (0 : Nat), ob := true, n := (112 : Nat) })
 else
 bif !rmB x == w then
 some
                    (Ex.ret, { sl := [((4 : Nat), V.bool false)], hp := [], nx := (0 : Nat), ob := true, n := (112 : Nat) })
 else
 bif decide (i < (↑s.length : Int)) then
 bif andT true (decide (x.length ≤ (140737488352000 : Nat))) then
 bif andT true (decide (w.length ≤ (140737488352000 : Nat))) then
 bif avE x != (0 : Int) then
 some
 (Ex.ret,
                              { sl := [((4 : Nat), V.bool false)], hp := [], nx := (0 : Nat), ob := true,
                                n := (112 : Nat) })
 else
 some
 (Ex.normal,
                              {
                                sl :=
                                  [((10 : Nat), V.int IntKind.i64 (IntKind.i64.wrap (i + (1 : Int)))),
                                    ((1 : Nat), V.rows (Sh.barr (16 : Nat)) s),
                                    ((5 : Nat),
                                      V.ref (0 : Nat) [] (0 : Nat)
                                        (Sh.agg
                                          [Sh.int IntKind.i64, Sh.int IntKind.i64, Sh.int IntKind.i64, Sh.int IntKind.i64,
                                            Sh.int IntKind.i64, Sh.barr (16 : Nat), Sh.barr (16 : Nat)])),
                                    ((7 : Nat), V.own (1 : Nat) (avB x).length (Sh.int IntKind.u8)),
                                    ((9 : Nat), V.own (2 : Nat) (nrB w).length (Sh.int IntKind.u8)),
                                    ((0 : Nat), V.bytes b)],
                                hp :=
                                  [((0 : Nat),
                                      some
                                        (Blk.var
                                          (Sh.agg
                                            [Sh.int IntKind.i64, Sh.int IntKind.i64, Sh.int IntKind.i64, Sh.int IntKind.i64,
                                              Sh.int IntKind.i64, Sh.barr (16 : Nat), Sh.barr (16 : Nat)])
                                          (V.agg
                                            [V.int IntKind.i64 h.1, V.int IntKind.i64 h.2, V.int IntKind.i64 h.3,
                                              V.int IntKind.i64 h.4, V.int IntKind.i64 h.5, V.barr (16 : Nat) h.6,
                                              V.barr (16 : Nat) h.7]))),
                                    ((1 : Nat), some (Blk.row (5 : Nat) (Sh.int IntKind.u8) (V.bytes (avB x)))),
                                    ((2 : Nat), some (Blk.row (5 : Nat) (Sh.int IntKind.u8) (V.bytes (nrB w))))],
                                nx := (3 : Nat), ob := true, n := (112 : Nat) })
 else none
 else none
 else
 some
 (Ex.normal,
                        {
                          sl :=
                            [((10 : Nat), V.int IntKind.i64 (IntKind.i64.wrap (i + (1 : Int)))),
                              ((1 : Nat), V.rows (Sh.barr (16 : Nat)) s),
                              ((5 : Nat),
                                V.ref (0 : Nat) [] (0 : Nat)
                                  (Sh.agg
                                    [Sh.int IntKind.i64, Sh.int IntKind.i64, Sh.int IntKind.i64, Sh.int IntKind.i64,
                                      Sh.int IntKind.i64, Sh.barr (16 : Nat), Sh.barr (16 : Nat)])),
                              ((7 : Nat), V.own (1 : Nat) x.length (Sh.int IntKind.u8)),
                              ((9 : Nat), V.own (2 : Nat) w.length (Sh.int IntKind.u8)), ((0 : Nat), V.bytes b)],
                          hp :=
                            [((0 : Nat),
                                some
                                  (Blk.var
                                    (Sh.agg
                                      [Sh.int IntKind.i64, Sh.int IntKind.i64, Sh.int IntKind.i64, Sh.int IntKind.i64,
                                        Sh.int IntKind.i64, Sh.barr (16 : Nat), Sh.barr (16 : Nat)])
                                    (V.agg
                                      [V.int IntKind.i64 h.1, V.int IntKind.i64 h.2, V.int IntKind.i64 h.3,
                                        V.int IntKind.i64 h.4, V.int IntKind.i64 h.5, V.barr (16 : Nat) h.6,
                                        V.barr (16 : Nat) h.7]))),
                              ((1 : Nat), some (Blk.row (5 : Nat) (Sh.int IntKind.u8) (V.bytes x))),
                              ((2 : Nat), some (Blk.row (5 : Nat) (Sh.int IntKind.u8) (V.bytes w)))],
                          nx := (3 : Nat), ob := true, n := (112 : Nat) })
 else none
 else
 some
 (Ex.exit (0 : Nat),
            { sl := [((7 : Nat), V.own (0 : Nat) x.length (Sh.int IntKind.u8))],
              hp := [((0 : Nat), some (Blk.row (5 : Nat) (Sh.int IntKind.u8) (V.bytes x)))], nx := (1 : Nat), ob := true,
              n := (112 : Nat) }) := by kernel_rfl

structure GsX where
  (k : Bool)
  (h : H6)
  (b : List UInt8)
  (s : List V)
  (x w : List UInt8)
  (i : Int)
noncomputable def gsS (y : GsX) : S := match y.k with
  | true => gsA y.h y.b y.s y.x y.w y.i
  | false => gsB y.h y.b y.s y.x y.w y.i
theorem goP_next {b : List UInt8} {s : List V} {i : Int} {x w d : List UInt8} (p : GoP b s i x w d) (hi : i < s.length) : GoP b s (i + 1) (avB x) (nrB w) d ∧ avE x = 0 ∧ w.length ≤ 1500 := by
  obtain ⟨h1, h2⟩ := p.go (by omega)
  have p0 := p.i0
  have hh := p.hp
  obtain ⟨e, g⟩ := go_next p.e0 p.ok h1 (by omega) p.hp
  have gf := inF p.e0
  have hn := go_near (b := b) (i := i.toNat) gf.h0 (by omega)
  have e1 : (i + 1).toNat = i.toNat + 1 := by omega
  have gl := gf.l
  have h40 := gE_40 (hdE_zero gf.h0).1
  refine ⟨⟨p.e0, p.ok, p.b16, p.hp, p.d0, by omega, by omega, fun _ => ⟨by rw [e1]; exact g, by rw [h2, hn, e1]⟩, fun h => ?_, ?_⟩, e, ?_⟩
  · omega
  · rw [g.l]; exact gl
  · rw [h2]
    unfold wtB
    have := hdX_len (gC b) (gLa b) (gLn b) (gNx b) (gHp b - (i.toNat : Int)) (gS b) (gD b)
    rw [List.length_append, List.length_drop]
    omega
theorem goP_end {b : List UInt8} {s : List V} {i : Int} {x w d : List UInt8} (p : GoP b s i x w d) (hi : i = s.length) : GoP b s (i + 1) x w d := by
  obtain ⟨h1, h2⟩ := p.go (by omega)
  have p0 := p.i0
  have e1 : i.toNat = s.length := by omega
  rw [e1] at h1
  exact ⟨p.e0, p.ok, p.b16, p.hp, p.d0, by omega, by omega, fun h => absurd h (by omega), fun _ => go_last h1, p.xl⟩
theorem dsT_get {b : List UInt8} {s : List V} {i : Nat} (hi : i < s.length) : dsT b s i = toA (s.getD i .undef) := by
  unfold dsT
  congr 1
  simp only [List.getD_eq_getElem?_getD]
  rw [List.getElem?_append_left hi]
theorem dsT_end {b : List UInt8} {s : List V} : dsT b s s.length = gD b := by
  unfold dsT
  simp [List.getD_eq_getElem?_getD, toA]
theorem gs_loop : LoopOk Try.prog gsC.erase [] gsG := by
  refine loopF_ok Edtq_ok (d := 6) (AC.flat_ok (by kernel_rfl)) (Am.ways [10, 1, 5, 7, 9, 0] [7] [4]) [] gsG (X := GsX) gsS (fun y => .leaf (.exit 0) (gsX (goN (y.s.length - y.i.toNat) y.x))) (fun y => GoP y.b y.s y.i y.x y.w y.h.d) (fun y => (y.s.length + 1 - y.i).toNat) ?_ ?_
  · intro s t h
    unfold gsG at h
    cases hk : Nat.beq s.nx 2 with
    | true =>
      rw [hk] at h
      obtain ⟨h1, h2, h3, h⟩ := gOf_spec (show gsGA s = _ from h)
      split at h
      · rename_i i s n w b jc jla jln jnx jhp js jd T x q1 q2 q3 q4 q5 q6 q7 q8
        injection h with h; injection h with hc ht
        obtain ⟨hc, hg⟩ := (Bool.and_eq_true _ _).mp hc
        obtain ⟨c1, c2⟩ := of_decide_eq_true hc
        subst c1; subst c2
        exact ⟨⟨true, ⟨jc, jla, jln, jnx, jhp, js, jd⟩, b, s, x, w, i⟩, .one h1 h2 (by simp [q1, q2, q3, q4, q5, q6]) (by simp [H6.v, q7, q8]), goB_p hg, ht.symm⟩
      · cases h
    | false =>
      rw [hk] at h
      obtain ⟨h1, h2, h3, h⟩ := gOf_spec (show gsGB s = _ from h)
      split at h
      · rename_i i s n m b jc jla jln jnx jhp js jd T x T' w q1 q2 q3 q4 q5 q6 q7 q8 q9
        injection h with h; injection h with hc ht
        obtain ⟨hc, hg⟩ := (Bool.and_eq_true _ _).mp hc
        obtain ⟨c1, c2, c3, c4⟩ := of_decide_eq_true hc
        subst c1; subst c2; subst c3; subst c4
        exact ⟨⟨false, ⟨jc, jla, jln, jnx, jhp, js, jd⟩, b, s, x, w, i⟩, .one h1 h2 (by simp [q1, q2, q3, q4, q5, q6]) (by simp [H6.v, q7, q8, q9]), goB_p hg, ht.symm⟩
      · cases h
  · rintro ⟨k, h, b, s, x, w, i⟩ p
    simp only at p ⊢
    have p0 := p.i0
    have p1 := p.i1
    have xl := p.xl
    have sl := (inF p.e0).s9
    obtain ⟨j, rfl⟩ := Int.eq_ofNat_of_zero_le p0
    have d0 := p.d0
    by_cases hlt : (j : Int) < s.length
    · obtain ⟨f, hw⟩ := p.go (by omega)
      obtain ⟨p', e, wl⟩ := goP_next p hlt
      simp only [Int.toNat_natCast] at f hw
      have hd : gD x = toA (s.getD j .undef) := by rw [f.hd.d, dsT_get (by omega)]
      have hr := f.r0
      have hm : rmB x = w := by rw [go_rm (inF p.e0).h0 f, hw]
      have ew : IntKind.i64.wrap ((j : Int) + 1) = (j : Int) + 1 := w64 (by omega) (by omega)
      refine .inl ⟨⟨false, h, b, s, avB x, nrB w, (j : Int) + 1⟩, ?_, p', by dsimp only; omega, leaf_eq ?_⟩
      · cases k with
        | true =>
          show aev _ _ _ _ (gsA h b s x w j) = _
          rw [gs_a]
          simp only [Int.toNat_natCast, hd, hm, ew, beq_self_eq_true, Bool.not_true]
          simp (disch := omega) only [dec_t, dec_f, inB_t, inC_t, andT_t, cond_true, cond_false, Bool.and_true, Bool.true_and, w64, wu32, wu8, nble_t, nblt_t, Bool.not_true, Bool.not_false, Bool.not_not, ieq_t, ieq_f, ine_t, ine_f, true_and, and_true, andT_l]
          rfl
        | false =>
          show aev _ _ _ _ (gsB h b s x w j) = _
          rw [gs_b]
          simp only [Int.toNat_natCast, hd, hm, ew, beq_self_eq_true, Bool.not_true]
          simp (disch := omega) only [dec_t, dec_f, inB_t, inC_t, andT_t, cond_true, cond_false, Bool.and_true, Bool.true_and, w64, wu32, wu8, nble_t, nblt_t, Bool.not_true, Bool.not_false, Bool.not_not, ieq_t, ieq_f, ine_t, ine_f, true_and, and_true, andT_l]
          rfl
      · dsimp only
        have e2 : s.length - ((j : Int)).toNat = (s.length - ((j : Int) + 1).toNat) + 1 := by omega
        rw [e2]
        rfl
    · by_cases heq : (j : Int) = s.length
      · have heq' : j = s.length := by omega
        obtain ⟨f, hw⟩ := p.go (by omega)
        have p' := goP_end p heq
        simp only [Int.toNat_natCast] at f hw
        have hd : gD x = h.d := by rw [f.hd.d, heq', dsT_end, d0]
        have hr := f.r0
        have hm : rmB x = w := by rw [go_rm (inF p.e0).h0 f, hw]
        have ew : IntKind.i64.wrap ((j : Int) + 1) = (j : Int) + 1 := w64 (by omega) (by omega)
        refine .inl ⟨⟨k, h, b, s, x, w, (j : Int) + 1⟩, ?_, p', by dsimp only; omega, leaf_eq ?_⟩
        · cases k with
          | true =>
            show aev _ _ _ _ (gsA h b s x w j) = _
            rw [gs_a]
            simp only [Int.toNat_natCast, hd, hm, ew, beq_self_eq_true, Bool.not_true]
            simp (disch := omega) only [dec_t, dec_f, inB_t, inC_t, andT_t, cond_true, cond_false, Bool.and_true, Bool.true_and, w64, wu32, wu8, nble_t, nblt_t, Bool.not_true, Bool.not_false, Bool.not_not, ieq_t, ieq_f, ine_t, ine_f, true_and, and_true, andT_l]
            rfl
          | false =>
            show aev _ _ _ _ (gsB h b s x w j) = _
            rw [gs_b]
            simp only [Int.toNat_natCast, hd, hm, ew, beq_self_eq_true, Bool.not_true]
            simp (disch := omega) only [dec_t, dec_f, inB_t, inC_t, andT_t, cond_true, cond_false, Bool.and_true, Bool.true_and, w64, wu32, wu8, nble_t, nblt_t, Bool.not_true, Bool.not_false, Bool.not_not, ieq_t, ieq_f, ine_t, ine_f, true_and, and_true, andT_l]
            rfl
        · dsimp only
          have e2 : s.length - ((j : Int)).toNat = s.length - ((j : Int) + 1).toNat := by omega
          rw [e2]
      · have hgt : (s.length : Int) < j := by omega
        refine .inr ⟨.exit 0, gsX x, ?_, nofun, ?_⟩
        · cases k with
          | true =>
            show aev _ _ _ _ (gsA h b s x w j) = _
            rw [gs_a]
            simp (disch := omega) only [dec_t, dec_f, inB_t, inC_t, andT_t, cond_true, cond_false, Bool.and_true, Bool.true_and, w64, wu32, wu8, nble_t, nblt_t, Bool.not_true, Bool.not_false, Bool.not_not, ieq_t, ieq_f, ine_t, ine_f, true_and, and_true, andT_l]
            rfl
          | false =>
            show aev _ _ _ _ (gsB h b s x w j) = _
            rw [gs_b]
            simp (disch := omega) only [dec_t, dec_f, inB_t, inC_t, andT_t, cond_true, cond_false, Bool.and_true, Bool.true_and, w64, wu32, wu8, nble_t, nblt_t, Bool.not_true, Bool.not_false, Bool.not_not, ieq_t, ieq_f, ine_t, ine_f, true_and, and_true, andT_l]
            rfl
        · rw [show s.length - ((j : Int)).toNat = 0 by omega]
          exact .leaf
theorem af_DetourGoes_ok : AllOk Try.prog 11 af_DetourGoes := .sums Try.func11 (by kernel_rfl) (by kernel_rfl) (by kernel_rfl) (by kernel_rfl) (sums_one (c := gsC) (ts := [10, 1, 5, 7, 9, 0]) (by kernel_rfl) (by kernel_rfl) gs_loop)
end Go.Proofs.Ytbojofchpnfnlaa

namespace Go.Proofs.Ytbojofchpnfnlaa
open Go Go.Am Go.RowKit Go.Mix Go.Bas
set_option maxRecDepth 100000
def sh_DetourGoes : List Sh := [.bytes, .rows (.barr 16)]
theorem DetourGoes_t (b : List UInt8) (s : List V) : callV Edtq af_DetourGoes [.bytes b, .rows (.barr 16) s] =
 bif
 andT true
 (decide (b.length ≤ (140737488352000 : Nat) ∧ (0 : Nat) ≤ (4611686018427387904 : Nat)) &&
 (isB16 s && okS s)) then
 bif inE b s [] != (0 : Int) then some (V.bool true)
 else
 bif decide ((↑s.length : Int) > (9 : Int)) then some (V.bool true)
 else
 bif decide (gHp b ≤ (↑s.length : Int)) then some (V.bool true)
 else
 bif
 decide ((inB b s []).length = (inB b s []).length ∧ (5 : Nat) = (5 : Nat)) &&
 goB b s (0 : Int) (inB b s []) b (gD b) then
 bif andT true (decide ((goN (s.length - (0 : Nat)) (inB b s [])).length ≤ (140737488352000 : Nat))) then
 bif avE (goN (s.length - (0 : Nat)) (inB b s [])) == (10 : Int) then some (V.bool true)
 else some (V.bool false)
 else none
 else none
 else none := by kernel_rfl

theorem goN_len {b : List UInt8} {s : List V} (h : inE b s [] = 0) (hok : okS s = true) (hh : (s.length : Int) < gHp b) : ∀ (n i : Nat) (x : List UInt8), n + i = s.length → GoF b s i x → avE (goN n x) = 10 ∧ (goN n x).length = x.length
  | 0, i, x, hn, f => by
    have e : i = s.length := by omega
    subst e
    exact ⟨go_last f, rfl⟩
  | n + 1, i, x, hn, f => by
    obtain ⟨-, g⟩ := go_next h hok f (by omega) hh
    obtain ⟨r1, r2⟩ := goN_len h hok hh n (i + 1) (avB x) (by omega) g
    exact ⟨r1, r2.trans (by rw [g.l, f.l])⟩
theorem wtB_0 {b : List UInt8} (h : hdE b = 0) : wtB b 0 = b := by
  unfold wtB
  rw [show gHp b - ((0 : Nat) : Int) = gHp b by omega]
  exact hd_self (hdE_zero h).1
theorem DetourGoes_v : ∀ xs, inRs 140737488351232 sh_DetourGoes xs = true → callV Edtq af_DetourGoes xs = some (.bool true) := by
  intro xs h
  obtain ⟨zx1, zl1, rfl, zh1, zr1⟩ := inRs_cons h; clear h
  obtain ⟨b, rfl, hb⟩ := inR_bytes zh1; clear zh1
  obtain ⟨zx2, zl2, rfl, zh2, zr2⟩ := inRs_cons zr1; clear zr1
  obtain ⟨s, rfl, hs, qs⟩ := inR_rows zh2; clear zh2
  obtain rfl := inRs_nil zr2; clear zr2
  rw [DetourGoes_t]
  have h1 := isB16_of qs
  have h2 := okS_of qs
  by_cases h4 : inE b s [] = 0
  · by_cases h5 : gHp b ≤ s.length
    · simp only [h1, h2]
      have s9 := (inF h4).s9
      simp (disch := omega) only [dec_t, dec_f, inB_t, inC_t, andT_t, cond_true, cond_false, Bool.and_true, Bool.true_and, w64, wu32, wu8, nble_t, nblt_t, Bool.not_true, Bool.not_false, Bool.not_not, ieq_t, ieq_f, ine_t, ine_f, true_and, and_true, andT_l]
    · have f := bkF h4 h2 (barr_of qs) (by simp)
      have g := inF h4
      have s9 := g.s9
      have g0 := goF_0 h4 f
      have gp : GoP b s 0 (inB b s []) b (gD b) := ⟨h4, h2, h1, by omega, rfl, by omega, by omega, fun _ => ⟨g0, (wtB_0 g.h0).symm⟩, fun h => absurd h (by omega), by rw [f.l]; exact g.l⟩
      have gb := goB_t gp
      obtain ⟨r1, r2⟩ := goN_len h4 h2 (by omega) (s.length - 0) 0 (inB b s []) (by omega) g0
      have hl := f.l
      have gl := g.l
      have rl : (goN (s.length - 0) (inB b s [])).length ≤ 1500 := by rw [r2]; omega
      simp only [h1, h2, gb, r1, beq_self_eq_true]
      simp (disch := omega) only [dec_t, dec_f, inB_t, inC_t, andT_t, cond_true, cond_false, Bool.and_true, Bool.true_and, w64, wu32, wu8, nble_t, nblt_t, Bool.not_true, Bool.not_false, Bool.not_not, ieq_t, ieq_f, ine_t, ine_f, true_and, and_true, andT_l]
      simp
  · simp only [h1, h2]
    simp (disch := omega) only [dec_t, dec_f, inB_t, inC_t, andT_t, cond_true, cond_false, Bool.and_true, Bool.true_and, w64, wu32, wu8, nble_t, nblt_t, Bool.not_true, Bool.not_false, Bool.not_not, ieq_t, ieq_f, ine_t, ine_f, true_and, and_true, andT_l]
end Go.Proofs.Ytbojofchpnfnlaa
