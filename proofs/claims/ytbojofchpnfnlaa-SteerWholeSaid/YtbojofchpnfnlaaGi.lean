/- Part Gi of the proof: laws used by the law of this claim. -/
import Derived.Test.YtbojofchpnfnlaaProg
import Derived.Test.YtbojofchpnfnlaaGd
import Derived.Test.YtbojofchpnfnlaaGe
import Derived.Test.YtbojofchpnfnlaaGc
import Derived.Test.YtbojofchpnfnlaaGf
set_option linter.all false
namespace Go.Proofs.Ytbojofchpnfnlaa
open Go.RowKit Go.Mix Go.Bas

def octB (n : Int) : Bool := decide (0 ≤ n ∧ n ≤ 255)
def msg0 (kd cd wd : Int) (body : List UInt8) : List UInt8 := [b8 kd, b8 cd, 0, 0] ++ four wd ++ body
def putM (src dst : List UInt8) (kd cd wd : Int) (body : List UInt8) : List UInt8 :=
  if octB kd = true ∧ octB cd = true then (msg0 kd cd wd body).take 2 ++ (two (chk src dst 58 (msg0 kd cd wd body)) ++ (msg0 kd cd wd body).drop 4) else []
theorem octB_iff {n : Int} : octB n = true ↔ 0 ≤ n ∧ n ≤ 255 := by unfold octB; exact decide_eq_true_iff
theorem octB_not {n : Int} : octB n = false ↔ ¬ (0 ≤ n ∧ n ≤ 255) := by unfold octB; exact decide_eq_false_iff_not

theorem octet_calls (n : Int) (w : World) : Calls Try.prog 151 #[.int .i64 n] w fun e w' => e = .returned (.bool (octB n)) ∧ w = w' := by
  by_cases h0 : 0 ≤ n
  · by_cases h1 : n ≤ 255
    · have HB := hid (octB_iff.2 ⟨h0, h1⟩)
      go_enter Try.func151, Try.ntmps151
      go_wp2
      go_ret
      exact ⟨by rw [HB.out]; rfl, rfl⟩
    · have HB := hid (octB_not.2 (fun h => h1 h.2))
      go_enter Try.func151, Try.ntmps151
      go_wp2
      go_ret
      exact ⟨by rw [HB.out]; rfl, rfl⟩
  · have HB := hid (octB_not.2 (fun h => h0 h.1))
    go_enter Try.func151, Try.ntmps151
    go_wp2
    go_ret
    exact ⟨by rw [HB.out]; rfl, rfl⟩

set_option maxRecDepth 8000 in
set_option maxHeartbeats 1000000 in
theorem IPut_calls (src dst : List UInt8) (kd cd wd : Int) (A : Option Addr) (n c : Nat) (body : List UInt8) (w : World) (hs : src.length = 16) (hd : dst.length = 16) (h : Bs w A n c body) (hsz : n ≤ 140737488351232) (hw0 : 0 ≤ wd) (hw1 : wd < 4294967296) :
    Calls Try.prog 109 #[av src, av dst, .agg #[.int .i64 kd, .int .i64 cd, .int .u32 wd, .slice A n c]] w fun e w' => ∃ A' n' c', e = .returned (.slice A' n' c') ∧ Own w' w.heap.size 5 A' n' c' (putM src dst kd cd wd body) ∧ Below w.heap.size w w' := by
  obtain ⟨i0, hi, hz0, hz1, hz2⟩ := info_parts Try.infob
  unfold av
  have HH := hid h
  have HS := hid hs
  have HD := hid hd
  have HW1 := hid hw1
  clear h hs hd hw1
  by_cases k0 : octB kd = true
  · by_cases k1 : octB cd = true
    · have hput : putM src dst kd cd wd body = (msg0 kd cd wd body).take 2 ++ (two (chk src dst 58 (msg0 kd cd wd body)) ++ (msg0 kd cd wd body).drop 4) := if_pos ⟨k0, k1⟩
      have HP := hid hput
      have r0 := octB_iff.1 k0
      have r1 := octB_iff.1 k1
      obtain ⟨r00, r01⟩ := r0
      obtain ⟨r10, r11⟩ := r1
      have K0 := hid k0
      have K1 := hid k1
      clear hput k0 k1
      go_enter Try.func109, Try.ntmps109
      go_wp2_with fail
      refine (octet_calls _ _).mono ?_; rintro e w' ⟨rfl, rfl⟩
      rw [K0.out]
      go_wp2_with fail
      refine (octet_calls _ _).mono ?_; rintro e w' ⟨rfl, rfl⟩
      rw [K1.out]
      go_wp2_with fail
      refine calls_name ?_; intro w4 hw4
      have hS : Blk w4 w.heap.size 39 (src.map bv) := by rw [hw4]; exact (((Blk.new _ _ _).alloc _).alloc _).alloc _
      have hD : Blk w4 (w.heap.size + 1) 39 (dst.map bv) := by rw [hw4]; exact ((Blk.new_at _ _ _ (by simp)).alloc _).alloc _
      have hM : Blk w4 (w.heap.size + 1 + 1) 64 [.int .i64 kd, .int .i64 cd, .int .u32 wd, .slice A n c] := by rw [hw4]; exact (Blk.new_at _ _ _ (by simp)).alloc _
      have ho4 : Own w4 w.heap.size 5 (some ⟨w.heap.size + 1 + 1 + 1, 0, none⟩) 4 4 [b8 kd, b8 cd, 0, 0] := by
        rw [hw4]; exact Own.made_at _ _ _ _ (by simp) rfl (by simp [bv_b8]; exact ⟨by omega, by omega, rfl⟩) (by simp) (by simp; omega)
      have hb4 : Below w.heap.size w w4 := by rw [hw4]; exact ((((Below.refl _ _).alloc (Nat.le_refl _) _).alloc (by simp) _).alloc (by simp; omega) _).alloc (by simp; omega) _
      have hx4 := hb4.size
      clear hw4
      refine (Put32_calls w.heap.size _ _ _ _ _ _ ho4 hx4 (by omega) hw0 HW1.out).mono ?_; rintro e w5 ⟨A5, n5, c5, rfl, ho5, hg5⟩
      have hS5 := hS.grown hg5 (ho4.apart hS (by decide))
      have hD5 := hD.grown hg5 (ho4.apart hD (by decide))
      have hM5 := hM.grown hg5 (ho4.apart hM (by decide))
      have hb5 := hb4.trans (below_grown hg5 ho4 (Nat.le_refl _) hx4)
      have hn5 : n5 = 8 := by have := ho5.len; simpa [four] using this
      subst hn5
      have c3 := hM5.cell (j := 3) rfl
      have hx5 := hb5.size
      have HS5 := hid hS5
      have HD5 := hid hD5
      have HB5 := hid hb5
      clear hS hD hM ho4 hb4 hg5 hS5 hD5 hM5 hb5 hx4
      go_wp2_with (at_builtin; refine stop ?_)
      refine Stop.on (wpList_app rfl _ _ 24 rfl 5 i0 Try.underlying24 hi hz0 hz1 hz2 w.heap.size _ _ rfl rfl ho5 (HH.out.step HB5.out) (by omega) hx5 ?_)
      intro A6 n6 c6 w6 ho6 hg6
      have hS6 := HS5.out.grown hg6 (ho5.apart HS5.out (by decide))
      have hD6 := HD5.out.grown hg6 (ho5.apart HD5.out (by decide))
      have hb6 := HB5.out.trans (below_grown hg6 ho5 (Nat.le_refl _) hx5)
      have hn6 : n6 ≤ 140737488351240 := by have := ho6.len_app ho5; have e := HH.out.len; omega
      have hi16 : (Try.prog.info? 39).map (·.size) = some 16 := by kernel_rfl
      have HLS := hid (hS6.ld_all (P := Try.prog) Try.underlying39 rfl (by rw [List.length_map, HS.out]; exact hi16))
      have HLD := hid (hD6.ld_all (P := Try.prog) Try.underlying39 rfl (by rw [List.length_map, HD.out]; exact hi16))
      have HB6 := hid hb6
      have HO6 : Hid (Own w6 w.heap.size 5 A6 n6 c6 (msg0 kd cd wd body)) := hid ho6
      clear hg6 ho5 c3 HS5 HD5 HB5 hS6 hD6 hb6 hi16 ho6
      go_wp2_with (with_reducible refine wpList_ld rfl (.agg (src.map bv).toArray) 39 (.tmp 3) (.pointer (some ⟨w.heap.size, 0, none⟩)) rfl rfl (HLS.out) ?_; refine stop ?_)
      refine Stop.on ?_
      go_wp2_with (with_reducible refine wpList_ld rfl (.agg (dst.map bv).toArray) 39 (.tmp 4) (.pointer (some ⟨w.heap.size + 1, 0, none⟩)) rfl rfl (HLD.out) ?_; refine stop ?_)
      refine Stop.on ?_
      go_wp2_with fail
      refine (Check_calls src dst 58 A6 n6 c6 (msg0 kd cd wd body) _ HS.out HD.out HO6.out.bs (by omega)).mono ?_; rintro e w7 ⟨rfl, hb7⟩
      have HB7 := hid (below_next HB6.out hb7)
      have HO7 := hid (HO6.out.step hb7)
      clear hb7 HLS HLD HB6 HO6
      go_wp2_with fail
      refine (Set16_calls A6 n6 c6 (msg0 kd cd wd body) 2 _ _ HO7.out.bs (by omega)).mono ?_; rintro e w8 ⟨A8, n8, c8, rfl, ho8, hb8⟩
      have hset : set16 (msg0 kd cd wd body) 2 (chk src dst 58 (msg0 kd cd wd body)) = (putM src dst kd cd wd body, true) := by
        rw [HP.out]; unfold set16; rw [if_pos ⟨by omega, by simp [msg0, four]; omega⟩]; rfl
      rw [hset] at ho8
      rw [hset]
      have hb8' := below_next HB7.out hb8
      have hx7 := HB7.out.size
      clear hset hb8 HO7 HB7
      go_wp2
      go_ret
      exact ⟨_, _, _, rfl, ho8.mono hx7, hb8'⟩
    · have k1' : octB cd = false := by simpa using k1
      have hput : putM src dst kd cd wd body = [] := if_neg (fun h => k1 h.2)
      have HP := hid hput
      have K0 := hid k0
      have K1 := hid k1'
      clear hput k0 k1 k1'
      go_enter Try.func109, Try.ntmps109
      go_wp2_with fail
      refine (octet_calls _ _).mono ?_; rintro e w' ⟨rfl, rfl⟩
      rw [K0.out]
      go_wp2_with fail
      refine (octet_calls _ _).mono ?_; rintro e w' ⟨rfl, rfl⟩
      rw [K1.out]
      go_wp2
      go_ret
      exact ⟨_, _, _, rfl, by rw [HP.out]; exact Own.nil _ _ _, (((Below.refl _ _).alloc (Nat.le_refl _) _).alloc (by simp) _).alloc (by simp; omega) _⟩
  · have k0' : octB kd = false := by simpa using k0
    have hput : putM src dst kd cd wd body = [] := if_neg (fun h => k0 h.1)
    have HP := hid hput
    have K0 := hid k0'
    clear hput k0 k0'
    go_enter Try.func109, Try.ntmps109
    go_wp2_with fail
    refine (octet_calls _ _).mono ?_; rintro e w' ⟨rfl, rfl⟩
    rw [K0.out]
    go_wp2
    go_ret
    exact ⟨_, _, _, rfl, by rw [HP.out]; exact Own.nil _ _ _, (((Below.refl _ _).alloc (Nat.le_refl _) _).alloc (by simp) _).alloc (by simp; omega) _⟩
end Go.Proofs.Ytbojofchpnfnlaa

namespace Go.Proofs.Ytbojofchpnfnlaa
open Go.RowKit Go.Mix Go.Bas

end Go.Proofs.Ytbojofchpnfnlaa

namespace Go.Proofs.Ytbojofchpnfnlaa
open Go Go.Am Go.RowKit Go.Mix Go.Bas
section
set_option maxRecDepth 100000
end
end Go.Proofs.Ytbojofchpnfnlaa

namespace Go.Proofs.Ytbojofchpnfnlaa
open Go Go.Am Go.RowKit Go.Mix Go.Bas

theorem msg_inv {O : Nat → Prop} {w : World} {kd cd wd : Int} {body : List UInt8} {c : Value} (h : VRep no O w (.agg [.int .i64 kd, .int .i64 cd, .int .u32 wd, .bytes body]) c) :
    ∃ A n k, c = .agg #[.int .i64 kd, .int .i64 cd, .int .u32 wd, .slice A n k] ∧ Bs w A n k body := by
  obtain ⟨cs, rfl, hc⟩ := h.agg_inv rfl
  cases hc with
  | agg h1 =>
    cases h1 with
    | cons a h1 =>
      cases a
      cases h1 with
      | cons a h1 =>
        cases a
        cases h1 with
        | cons a h1 =>
          cases a
          cases h1 with
          | cons a h1 =>
            cases h1
            cases a with
            | bytes hb _ => exact ⟨_, _, _, rfl, hb⟩
def cPut : List V → Option (V × Bool)
  | [.barr 16 s, .barr 16 d, .agg [.int .i64 kd, .int .i64 cd, .int .u32 wd, .bytes body]] => some (.ownv 5 (.bytes (putM s d kd cd wd body)), decide (body.length ≤ 140737488351232 ∧ 0 ≤ wd ∧ wd < 4294967296))
  | _ => none
theorem IPut_con : ∀ vs v, cPut vs = some (v, true) → SpecV Try.prog 109 vs v := by
  intro vs v h; unfold cPut at h; split at h
  · injection h with h; injection h with h hb; subst h
    have hb := of_decide_eq_true hb
    intro O w cs hO hv
    obtain ⟨a, b, c, rfl, ha, hb', hc⟩ := hv.three_inv
    obtain ⟨rfl, h1⟩ := ha.barr_inv
    obtain ⟨rfl, h2⟩ := hb'.barr_inv
    obtain ⟨A, n, k, rfl, hA⟩ := msg_inv hc
    exact kOwn (IPut_calls _ _ _ _ _ _ _ _ _ _ h1 h2 hA (by have := hA.len; omega) hb.2.1 hb.2.2)
  · cases h
end Go.Proofs.Ytbojofchpnfnlaa

namespace Go.Proofs.Ytbojofchpnfnlaa
open Go Go.Am Go.RowKit Go.Mix Go.Bas
def parI (e x : Int) : Int := if e = 0 then x else 0
def parA (e : Int) (l : List UInt8) : List UInt8 := if e = 0 then l else List.replicate 16 0
def geE (b : List UInt8) : Int := if b.length < 40 then 3 else if gt b 0 / 16 = 6 then 0 else 5
def hC (b : List UInt8) : Int := parI (geE b) (gt b 0 % 16 * 16 + gt b 1 / 16)
def hLa (b : List UInt8) : Int := parI (geE b) (gt b 1 % 16 * 65536 + gt b 2 * 256 + gt b 3)
def hLn (b : List UInt8) : Int := parI (geE b) (gt b 4 * 256 + gt b 5)
def hNx (b : List UInt8) : Int := parI (geE b) (gt b 6)
def hHp (b : List UInt8) : Int := parI (geE b) (gt b 7)
def hS (b : List UInt8) : List UInt8 := parA (geE b) (cutL b 8 24)
def hD (b : List UInt8) : List UInt8 := parA (geE b) (cutL b 24 40)
def getV (b : List UInt8) : V := .tup [.agg [.int .i64 (hC b), .int .i64 (hLa b), .int .i64 (hLn b), .int .i64 (hNx b), .int .i64 (hHp b), .barr 16 (hS b), .barr 16 (hD b)], .int .i64 (geE b)]
def cGet : List V → Option (V × Bool)
  | [.bytes b] => some (getV b, true)
  | _ => none
set_option maxRecDepth 100000
noncomputable def af_SixGet : AF := afOf Try.prog Try.f147 []
theorem af_SixGet_ok : AllOk Try.prog 147 af_SixGet := .flat Try.func147 (by kernel_rfl) (by kernel_rfl) (by kernel_rfl) (by kernel_rfl) (by kernel_rfl)
noncomputable def GEsx : List (Nat × Con) := [(70, .val [.bytes, .int .i64] cU32), (124, .val [.bytes, .int .i64] cU16)]
theorem GEsx_ok : GOk Try.prog GEsx := .cons (enters_of Try.func70 (by kernel_rfl) rfl) U32_con <| .cons (enters_of Try.func124 (by kernel_rfl) rfl) U16_con <| .nil
noncomputable def IEsx : List (Nat × AF) := []
theorem IEsx_ok : IOk Try.prog IEsx := .nil
noncomputable def CEsx : List (Nat × (List Nat × (S → Option S))) := []
theorem CEsx_ok : COk Try.prog CEsx := .nil
noncomputable def XEsx : List (Nat × (List Sh × (List V → PT))) := []
theorem XEsx_ok : XOk Try.prog XEsx := .nil
noncomputable def Esx : Env := ⟨Try.prog, GEsx, IEsx, CEsx, XEsx⟩
theorem Esx_ok : EnvOk Esx := ⟨by kernel_rfl, GEsx_ok, IEsx_ok, CEsx_ok, XEsx_ok⟩
theorem SixGet_t (b : List UInt8) : callV Esx af_SixGet [.bytes b] =
 bif decide ((↑b.length : Int) < (40 : Int)) then
 some
 (V.tup
 [V.agg
 [V.int IntKind.i64 (0 : Int), V.int IntKind.i64 (0 : Int), V.int IntKind.i64 (0 : Int),
 V.int IntKind.i64 (0 : Int), V.int IntKind.i64 (0 : Int),
 V.barr (16 : Nat) (List.replicate (16 : Nat) (0 : UInt8)),
 V.barr (16 : Nat) (List.replicate (16 : Nat) (0 : UInt8))],
 V.int IntKind.i64 (3 : Int)])
 else
 bif (u32 b (0 : Int)).1.fdiv (268435456 : Int) != (6 : Int) then
 some
 (V.tup
 [V.agg
 [V.int IntKind.i64 (0 : Int), V.int IntKind.i64 (0 : Int), V.int IntKind.i64 (0 : Int),
 V.int IntKind.i64 (0 : Int), V.int IntKind.i64 (0 : Int),
 V.barr (16 : Nat) (List.replicate (16 : Nat) (0 : UInt8)),
 V.barr (16 : Nat) (List.replicate (16 : Nat) (0 : UInt8))],
 V.int IntKind.i64 (5 : Int)])
 else
 bif andT (andT true (inB (6 : Int) b.length)) (inB (7 : Int) b.length) && true then
 bif andT true (Am.inC (24 : Int) b.length) && true then
 bif andT true (Am.inC (40 : Int) b.length) && true then
 some
 (V.tup
 [V.agg
 [V.int IntKind.i64
 (IntKind.i64.wrap
 (bits BinOp.and IntKind.u32 ((u32 b (0 : Int)).1.fdiv (1048576 : Int)) (255 : Int))),
 V.int IntKind.i64
 (IntKind.i64.wrap (bits BinOp.and IntKind.u32 (u32 b (0 : Int)).1 (1048575 : Int))),
 V.int IntKind.i64 (u16 b (4 : Int)).1, V.int IntKind.i64 (IntKind.i64.wrap (gt b (6 : Nat))),
 V.int IntKind.i64 (IntKind.i64.wrap (gt b (7 : Nat))),
 V.barr (16 : Nat)
 (cpL (List.replicate (16 : Nat) (0 : UInt8)) (0 : Nat) (16 : Nat)
 (cutL b (8 : Nat) (24 : Nat))),
 V.barr (16 : Nat)
 (cpL (List.replicate (16 : Nat) (0 : UInt8)) (0 : Nat) (16 : Nat)
 (cutL b (24 : Nat) (40 : Nat)))],
 V.int IntKind.i64 (0 : Int)])
 else none
 else none
 else none := by kernel_rfl

theorem SixGet_v (b : List UInt8) : callV Esx af_SixGet [.bytes b] = some (getV b) := by
  rw [SixGet_t]
  unfold getV hC hLa hLn hNx hHp hS hD
  by_cases h : b.length < 40
  · have he : geE b = 3 := if_pos h
    rw [he]
    simp (disch := omega) only [dec_t, cond_true, parI, parA]
    rfl
  · have g0 := gt_lo b 0; have g0' := gt_hi b 0
    have g1 := gt_lo b 1; have g1' := gt_hi b 1
    have g2 := gt_lo b 2; have g2' := gt_hi b 2
    have g3 := gt_lo b 3; have g3' := gt_hi b 3
    have g6 := gt_lo b 6; have g6' := gt_hi b 6
    have g7 := gt_lo b 7; have g7' := gt_hi b 7
    have hu : (u32 b 0).1 = be32 b 0 := by unfold u32; rw [if_pos (by omega)]; rfl
    have hv : (u16 b 4).1 = gt b 4 * 256 + gt b 5 := by unfold u16; rw [if_pos (by omega)]; rfl
    have hb : be32 b 0 = ((gt b 0 * 256 + gt b 1) * 256 + gt b 2) * 256 + gt b 3 := rfl
    have m1 : bits .and .u32 (be32 b 0 / 1048576) 255 = (be32 b 0 / 1048576) % 256 := and_mask_u32 _ 8 (by omega) (by omega) (by omega)
    have m2 : bits .and .u32 (be32 b 0) 1048575 = be32 b 0 % 1048576 := and_mask_u32 _ 20 (by omega) (by omega) (by omega)
    rw [hu, hv]
    simp (disch := omega) only [dec_f, cond_false, fdv, inB_t, inC_t, andT_t, Bool.and_true, cond_true, m1, m2, w64]
    by_cases h6 : gt b 0 / 16 = 6
    · have he : geE b = 0 := by unfold geE; rw [if_neg h, if_pos h6]
      rw [he, ine_f (by omega)]
      simp only [cond_false, parI, parA, if_true]
      have c1 : cpL (List.replicate 16 0) 0 16 (cutL b 8 24) = cutL b 8 24 := cpL_full (l := List.replicate 16 0) (by rw [length_cutL, List.length_replicate]; omega)
      have c2 : cpL (List.replicate 16 0) 0 16 (cutL b 24 40) = cutL b 24 40 := cpL_full (l := List.replicate 16 0) (by rw [length_cutL, List.length_replicate]; omega)
      rw [c1, c2, show be32 b 0 / 1048576 % 256 = gt b 0 % 16 * 16 + gt b 1 / 16 by omega, show be32 b 0 % 1048576 = gt b 1 % 16 * 65536 + gt b 2 * 256 + gt b 3 by omega]
    · have he : geE b = 5 := by unfold geE; rw [if_neg h, if_neg h6]
      rw [he, ine_t (by omega)]
      simp only [cond_true, parI, parA]
      rfl
theorem SixGet_con : ∀ vs v, cGet vs = some (v, true) → SpecV Try.prog 147 vs v := by
  intro vs v h; unfold cGet at h; split at h
  · rename_i b
    injection h with h; injection h with h hb; subst h
    exact callV_ok Esx_ok af_SixGet_ok (SixGet_v b)
  · cases h
end Go.Proofs.Ytbojofchpnfnlaa

namespace Go.Proofs.Ytbojofchpnfnlaa
open Go Go.Am Go.RowKit Go.Mix Go.Bas
set_option maxRecDepth 100000
noncomputable def af_Ibad : AF := afOf Try.prog Try.f192 []
theorem af_Ibad_ok : AllOk Try.prog 192 af_Ibad := .flat Try.func192 (by kernel_rfl) (by kernel_rfl) (by kernel_rfl) (by kernel_rfl) (by kernel_rfl)
noncomputable def af_Iknown : AF := afOf Try.prog Try.f176 []
theorem af_Iknown_ok : AllOk Try.prog 176 af_Iknown := .flat Try.func176 (by kernel_rfl) (by kernel_rfl) (by kernel_rfl) (by kernel_rfl) (by kernel_rfl)
noncomputable def af_Ioctet : AF := afOf Try.prog Try.f151 []
theorem af_Ioctet_ok : AllOk Try.prog 151 af_Ioctet := .flat Try.func151 (by kernel_rfl) (by kernel_rfl) (by kernel_rfl) (by kernel_rfl) (by kernel_rfl)
noncomputable def af_Ifailed : AF := afOf Try.prog Try.f177 []
theorem af_Ifailed_ok : AllOk Try.prog 177 af_Ifailed := .flat Try.func177 (by kernel_rfl) (by kernel_rfl) (by kernel_rfl) (by kernel_rfl) (by kernel_rfl)
noncomputable def af_IAbout2 : AF := afOf Try.prog Try.f148 []
theorem af_IAbout2_ok : AllOk Try.prog 148 af_IAbout2 := .flat Try.func148 (by kernel_rfl) (by kernel_rfl) (by kernel_rfl) (by kernel_rfl) (by kernel_rfl)
noncomputable def GE8b : List (Nat × Con) := [(69, .val [.bytes] cClone), (147, .val [.bytes] cGet)]

theorem GE8b_ok : GOk Try.prog GE8b := .cons (enters_of Try.func69 (by kernel_rfl) rfl) Clone_con <| .cons (enters_of Try.func147 (by kernel_rfl) rfl) SixGet_con <| .nil

noncomputable def IE8b : List (Nat × AF) := [(192, af_Ibad), (176, af_Iknown), (151, af_Ioctet), (177, af_Ifailed)]
theorem IE8b_ok : IOk Try.prog IE8b := .cons af_Ibad_ok <| .cons af_Iknown_ok <| .cons af_Ioctet_ok <| .cons af_Ifailed_ok <| .nil
noncomputable def CE8b : List (Nat × (List Nat × (S → Option S))) := []
theorem CE8b_ok : COk Try.prog CE8b := .nil
noncomputable def XE8b : List (Nat × (List Sh × (List V → PT))) := []
theorem XE8b_ok : XOk Try.prog XE8b := .nil
noncomputable def E8b : Env := ⟨Try.prog, GE8b, IE8b, CE8b, XE8b⟩
theorem E8b_ok : EnvOk E8b := ⟨by kernel_rfl, GE8b_ok, IE8b_ok, CE8b_ok, XE8b_ok⟩
def bI (c : Bool) (x : Int) : Int := if c then x else 0
def bL (c : Bool) (l : List UInt8) : List UInt8 := if c then l else []
def abB (k c : Int) (p : List UInt8) : Bool := decide ((1 ≤ k ∧ k ≤ 4) ∧ (0 ≤ c ∧ c ≤ 255) ∧ ¬ (geE p = 0 ∧ hNx p = 58 ∧ 40 < p.length ∧ gt p 40 < 128))
def cIAbout : List V → Option (V × Bool)
  | [.int .i64 k, .int .i64 c, .int .u32 wd, .bytes p] => some (.tup [.agg [.int .i64 (bI (abB k c p) k), .int .i64 (bI (abB k c p) c), .int .u32 (bI (abB k c p) wd), .bytes (bL (abB k c p) (p.take 1232))], .bool (abB k c p)], decide (p.length ≤ 140737488351232))
  | _ => none
theorem IAbout_t (k c wd : Int) (p : List UInt8) : callV E8b af_IAbout2 [.int .i64 k, .int .i64 c, .int .u32 wd, .bytes p] =
 bif k == (1 : Int) then
 bif decide (c ≥ (0 : Int)) then
 bif !decide (c ≤ (255 : Int)) then
 some
 (V.tup
 [V.agg [V.int IntKind.i64 (0 : Int), V.int IntKind.i64 (0 : Int), V.int IntKind.u32 (0 : Int), V.bytes []],
 V.bool false])
 else
 bif geE p != (0 : Int) then
 bif
 andT
 (andT true
 (Am.inC (if (1232 : Int) < (↑p.length : Int) then (1232 : Int) else (↑p.length : Int)) p.length))
 (decide
 ((cutL p (0 : Nat)
 (if (1232 : Int) < (↑p.length : Int) then (1232 : Int) else (↑p.length : Int)).toNat).length ≤
 (140737488355328 : Nat))) then
 some
 (V.tup
 [V.agg
 [V.int IntKind.i64 k, V.int IntKind.i64 c, V.int IntKind.u32 wd,
 V.bytes
 (cutL p (0 : Nat)
 (if (1232 : Int) < (↑p.length : Int) then (1232 : Int) else (↑p.length : Int)).toNat)],
 V.bool true])
 else none
 else
 bif hNx p != (58 : Int) then
 bif
 andT
 (andT true
 (Am.inC (if (1232 : Int) < (↑p.length : Int) then (1232 : Int) else (↑p.length : Int)) p.length))
 (decide
 ((cutL p (0 : Nat)
 (if (1232 : Int) < (↑p.length : Int) then (1232 : Int) else (↑p.length : Int)).toNat).length ≤
 (140737488355328 : Nat))) then
 some
 (V.tup
 [V.agg
 [V.int IntKind.i64 k, V.int IntKind.i64 c, V.int IntKind.u32 wd,
 V.bytes
 (cutL p (0 : Nat)
 (if (1232 : Int) < (↑p.length : Int) then (1232 : Int) else (↑p.length : Int)).toNat)],
 V.bool true])
 else none
 else
 bif decide ((↑p.length : Int) ≤ (40 : Int)) then
 bif
 andT
 (andT true
 (Am.inC (if (1232 : Int) < (↑p.length : Int) then (1232 : Int) else (↑p.length : Int)) p.length))
 (decide
 ((cutL p (0 : Nat)
 (if (1232 : Int) < (↑p.length : Int) then (1232 : Int)
 else (↑p.length : Int)).toNat).length ≤
 (140737488355328 : Nat))) then
 some
 (V.tup
 [V.agg
 [V.int IntKind.i64 k, V.int IntKind.i64 c, V.int IntKind.u32 wd,
 V.bytes
 (cutL p (0 : Nat)
 (if (1232 : Int) < (↑p.length : Int) then (1232 : Int) else (↑p.length : Int)).toNat)],
 V.bool true])
 else none
 else
 bif andT true (inB (40 : Int) p.length) then
 bif andT true (inB (40 : Int) p.length) then
 bif decide (IntKind.i64.wrap (gt p (40 : Nat)) ≥ (0 : Int)) then
 bif decide (IntKind.i64.wrap (gt p (40 : Nat)) < (128 : Int)) then
 some
 (V.tup
 [V.agg
 [V.int IntKind.i64 (0 : Int), V.int IntKind.i64 (0 : Int), V.int IntKind.u32 (0 : Int),
 V.bytes []],
 V.bool false])
 else
 bif
 andT
 (andT true
 (Am.inC (if (1232 : Int) < (↑p.length : Int) then (1232 : Int) else (↑p.length : Int))
 p.length))
 (decide
 ((cutL p (0 : Nat)
 (if (1232 : Int) < (↑p.length : Int) then (1232 : Int)
 else (↑p.length : Int)).toNat).length ≤
 (140737488355328 : Nat))) then
 some
 (V.tup
 [V.agg
 [V.int IntKind.i64 k, V.int IntKind.i64 c, V.int IntKind.u32 wd,
 V.bytes
 (cutL p (0 : Nat)
 (if (1232 : Int) < (↑p.length : Int) then (1232 : Int)
 else (↑p.length : Int)).toNat)],
 V.bool true])
 else none
 else
 bif
 andT
 (andT true
 (Am.inC (if (1232 : Int) < (↑p.length : Int) then (1232 : Int) else (↑p.length : Int))
 p.length))
 (decide
 ((cutL p (0 : Nat)
 (if (1232 : Int) < (↑p.length : Int) then (1232 : Int)
 else (↑p.length : Int)).toNat).length ≤
 (140737488355328 : Nat))) then
 some
 (V.tup
 [V.agg
 [V.int IntKind.i64 k, V.int IntKind.i64 c, V.int IntKind.u32 wd,
 V.bytes
 (cutL p (0 : Nat)
 (if (1232 : Int) < (↑p.length : Int) then (1232 : Int)
 else (↑p.length : Int)).toNat)],
 V.bool true])
 else none
 else none
 else none
 else
 some
 (V.tup
 [V.agg [V.int IntKind.i64 (0 : Int), V.int IntKind.i64 (0 : Int), V.int IntKind.u32 (0 : Int), V.bytes []],
 V.bool false])
 else
 bif k == (2 : Int) then
 bif decide (c ≥ (0 : Int)) then
 bif !decide (c ≤ (255 : Int)) then
 some
 (V.tup
 [V.agg
 [V.int IntKind.i64 (0 : Int), V.int IntKind.i64 (0 : Int), V.int IntKind.u32 (0 : Int), V.bytes []],
 V.bool false])
 else
 bif geE p != (0 : Int) then
 bif
 andT
 (andT true
 (Am.inC (if (1232 : Int) < (↑p.length : Int) then (1232 : Int) else (↑p.length : Int)) p.length))
 (decide
 ((cutL p (0 : Nat)
 (if (1232 : Int) < (↑p.length : Int) then (1232 : Int) else (↑p.length : Int)).toNat).length ≤
 (140737488355328 : Nat))) then
 some
 (V.tup
 [V.agg
 [V.int IntKind.i64 k, V.int IntKind.i64 c, V.int IntKind.u32 wd,
 V.bytes
 (cutL p (0 : Nat)
 (if (1232 : Int) < (↑p.length : Int) then (1232 : Int) else (↑p.length : Int)).toNat)],
 V.bool true])
 else none
 else
 bif hNx p != (58 : Int) then
 bif
 andT
 (andT true
 (Am.inC (if (1232 : Int) < (↑p.length : Int) then (1232 : Int) else (↑p.length : Int)) p.length))
 (decide
 ((cutL p (0 : Nat)
 (if (1232 : Int) < (↑p.length : Int) then (1232 : Int)
 else (↑p.length : Int)).toNat).length ≤
 (140737488355328 : Nat))) then
 some
 (V.tup
 [V.agg
 [V.int IntKind.i64 k, V.int IntKind.i64 c, V.int IntKind.u32 wd,
 V.bytes
 (cutL p (0 : Nat)
 (if (1232 : Int) < (↑p.length : Int) then (1232 : Int) else (↑p.length : Int)).toNat)],
 V.bool true])
 else none
 else
 bif decide ((↑p.length : Int) ≤ (40 : Int)) then
 bif
 andT
 (andT true
 (Am.inC (if (1232 : Int) < (↑p.length : Int) then (1232 : Int) else (↑p.length : Int))
 p.length))
 (decide
 ((cutL p (0 : Nat)
 (if (1232 : Int) < (↑p.length : Int) then (1232 : Int)
 else (↑p.length : Int)).toNat).length ≤
 (140737488355328 : Nat))) then
 some
 (V.tup
 [V.agg
 [V.int IntKind.i64 k, V.int IntKind.i64 c, V.int IntKind.u32 wd,
 V.bytes
 (cutL p (0 : Nat)
 (if (1232 : Int) < (↑p.length : Int) then (1232 : Int) else (↑p.length : Int)).toNat)],
 V.bool true])
 else none
 else
 bif andT true (inB (40 : Int) p.length) then
 bif andT true (inB (40 : Int) p.length) then
 bif decide (IntKind.i64.wrap (gt p (40 : Nat)) ≥ (0 : Int)) then
 bif decide (IntKind.i64.wrap (gt p (40 : Nat)) < (128 : Int)) then
 some
 (V.tup
 [V.agg
 [V.int IntKind.i64 (0 : Int), V.int IntKind.i64 (0 : Int), V.int IntKind.u32 (0 : Int),
 V.bytes []],
 V.bool false])
 else
 bif
 andT
 (andT true
 (Am.inC (if (1232 : Int) < (↑p.length : Int) then (1232 : Int) else (↑p.length : Int))
 p.length))
 (decide
 ((cutL p (0 : Nat)
 (if (1232 : Int) < (↑p.length : Int) then (1232 : Int)
 else (↑p.length : Int)).toNat).length ≤
 (140737488355328 : Nat))) then
 some
 (V.tup
 [V.agg
 [V.int IntKind.i64 k, V.int IntKind.i64 c, V.int IntKind.u32 wd,
 V.bytes
 (cutL p (0 : Nat)
 (if (1232 : Int) < (↑p.length : Int) then (1232 : Int)
 else (↑p.length : Int)).toNat)],
 V.bool true])
 else none
 else
 bif
 andT
 (andT true
 (Am.inC (if (1232 : Int) < (↑p.length : Int) then (1232 : Int) else (↑p.length : Int))
 p.length))
 (decide
 ((cutL p (0 : Nat)
 (if (1232 : Int) < (↑p.length : Int) then (1232 : Int)
 else (↑p.length : Int)).toNat).length ≤
 (140737488355328 : Nat))) then
 some
 (V.tup
 [V.agg
 [V.int IntKind.i64 k, V.int IntKind.i64 c, V.int IntKind.u32 wd,
 V.bytes
 (cutL p (0 : Nat)
 (if (1232 : Int) < (↑p.length : Int) then (1232 : Int)
 else (↑p.length : Int)).toNat)],
 V.bool true])
 else none
 else none
 else none
 else
 some
 (V.tup
 [V.agg [V.int IntKind.i64 (0 : Int), V.int IntKind.i64 (0 : Int), V.int IntKind.u32 (0 : Int), V.bytes []],
 V.bool false])
 else
 bif k == (3 : Int) then
 bif decide (c ≥ (0 : Int)) then
 bif !decide (c ≤ (255 : Int)) then
 some
 (V.tup
 [V.agg
 [V.int IntKind.i64 (0 : Int), V.int IntKind.i64 (0 : Int), V.int IntKind.u32 (0 : Int), V.bytes []],
 V.bool false])
 else
 bif geE p != (0 : Int) then
 bif
 andT
 (andT true
 (Am.inC (if (1232 : Int) < (↑p.length : Int) then (1232 : Int) else (↑p.length : Int)) p.length))
 (decide
 ((cutL p (0 : Nat)
 (if (1232 : Int) < (↑p.length : Int) then (1232 : Int)
 else (↑p.length : Int)).toNat).length ≤
 (140737488355328 : Nat))) then
 some
 (V.tup
 [V.agg
 [V.int IntKind.i64 k, V.int IntKind.i64 c, V.int IntKind.u32 wd,
 V.bytes
 (cutL p (0 : Nat)
 (if (1232 : Int) < (↑p.length : Int) then (1232 : Int) else (↑p.length : Int)).toNat)],
 V.bool true])
 else none
 else
 bif hNx p != (58 : Int) then
 bif
 andT
 (andT true
 (Am.inC (if (1232 : Int) < (↑p.length : Int) then (1232 : Int) else (↑p.length : Int))
 p.length))
 (decide
 ((cutL p (0 : Nat)
 (if (1232 : Int) < (↑p.length : Int) then (1232 : Int)
 else (↑p.length : Int)).toNat).length ≤
 (140737488355328 : Nat))) then
 some
 (V.tup
 [V.agg
 [V.int IntKind.i64 k, V.int IntKind.i64 c, V.int IntKind.u32 wd,
 V.bytes
 (cutL p (0 : Nat)
 (if (1232 : Int) < (↑p.length : Int) then (1232 : Int) else (↑p.length : Int)).toNat)],
 V.bool true])
 else none
 else
 bif decide ((↑p.length : Int) ≤ (40 : Int)) then
 bif
 andT
 (andT true
 (Am.inC (if (1232 : Int) < (↑p.length : Int) then (1232 : Int) else (↑p.length : Int))
 p.length))
 (decide
 ((cutL p (0 : Nat)
 (if (1232 : Int) < (↑p.length : Int) then (1232 : Int)
 else (↑p.length : Int)).toNat).length ≤
 (140737488355328 : Nat))) then
 some
 (V.tup
 [V.agg
 [V.int IntKind.i64 k, V.int IntKind.i64 c, V.int IntKind.u32 wd,
 V.bytes
 (cutL p (0 : Nat)
 (if (1232 : Int) < (↑p.length : Int) then (1232 : Int)
 else (↑p.length : Int)).toNat)],
 V.bool true])
 else none
 else
 bif andT true (inB (40 : Int) p.length) then
 bif andT true (inB (40 : Int) p.length) then
 bif decide (IntKind.i64.wrap (gt p (40 : Nat)) ≥ (0 : Int)) then
 bif decide (IntKind.i64.wrap (gt p (40 : Nat)) < (128 : Int)) then
 some
 (V.tup
 [V.agg
 [V.int IntKind.i64 (0 : Int), V.int IntKind.i64 (0 : Int),
 V.int IntKind.u32 (0 : Int), V.bytes []],
 V.bool false])
 else
 bif
 andT
 (andT true
 (Am.inC (if (1232 : Int) < (↑p.length : Int) then (1232 : Int) else (↑p.length : Int))
 p.length))
 (decide
 ((cutL p (0 : Nat)
 (if (1232 : Int) < (↑p.length : Int) then (1232 : Int)
 else (↑p.length : Int)).toNat).length ≤
 (140737488355328 : Nat))) then
 some
 (V.tup
 [V.agg
 [V.int IntKind.i64 k, V.int IntKind.i64 c, V.int IntKind.u32 wd,
 V.bytes
 (cutL p (0 : Nat)
 (if (1232 : Int) < (↑p.length : Int) then (1232 : Int)
 else (↑p.length : Int)).toNat)],
 V.bool true])
 else none
 else
 bif
 andT
 (andT true
 (Am.inC (if (1232 : Int) < (↑p.length : Int) then (1232 : Int) else (↑p.length : Int))
 p.length))
 (decide
 ((cutL p (0 : Nat)
 (if (1232 : Int) < (↑p.length : Int) then (1232 : Int)
 else (↑p.length : Int)).toNat).length ≤
 (140737488355328 : Nat))) then
 some
 (V.tup
 [V.agg
 [V.int IntKind.i64 k, V.int IntKind.i64 c, V.int IntKind.u32 wd,
 V.bytes
 (cutL p (0 : Nat)
 (if (1232 : Int) < (↑p.length : Int) then (1232 : Int)
 else (↑p.length : Int)).toNat)],
 V.bool true])
 else none
 else none
 else none
 else
 some
 (V.tup
 [V.agg
 [V.int IntKind.i64 (0 : Int), V.int IntKind.i64 (0 : Int), V.int IntKind.u32 (0 : Int), V.bytes []],
 V.bool false])
 else
 bif k == (4 : Int) then
 bif decide (c ≥ (0 : Int)) then
 bif !decide (c ≤ (255 : Int)) then
 some
 (V.tup
 [V.agg
 [V.int IntKind.i64 (0 : Int), V.int IntKind.i64 (0 : Int), V.int IntKind.u32 (0 : Int),
 V.bytes []],
 V.bool false])
 else
 bif geE p != (0 : Int) then
 bif
 andT
 (andT true
 (Am.inC (if (1232 : Int) < (↑p.length : Int) then (1232 : Int) else (↑p.length : Int))
 p.length))
 (decide
 ((cutL p (0 : Nat)
 (if (1232 : Int) < (↑p.length : Int) then (1232 : Int)
 else (↑p.length : Int)).toNat).length ≤
 (140737488355328 : Nat))) then
 some
 (V.tup
 [V.agg
 [V.int IntKind.i64 k, V.int IntKind.i64 c, V.int IntKind.u32 wd,
 V.bytes
 (cutL p (0 : Nat)
 (if (1232 : Int) < (↑p.length : Int) then (1232 : Int) else (↑p.length : Int)).toNat)],
 V.bool true])
 else none
 else
 bif hNx p != (58 : Int) then
 bif
 andT
 (andT true
 (Am.inC (if (1232 : Int) < (↑p.length : Int) then (1232 : Int) else (↑p.length : Int))
 p.length))
 (decide
 ((cutL p (0 : Nat)
 (if (1232 : Int) < (↑p.length : Int) then (1232 : Int)
 else (↑p.length : Int)).toNat).length ≤
 (140737488355328 : Nat))) then
 some
 (V.tup
 [V.agg
 [V.int IntKind.i64 k, V.int IntKind.i64 c, V.int IntKind.u32 wd,
 V.bytes
 (cutL p (0 : Nat)
 (if (1232 : Int) < (↑p.length : Int) then (1232 : Int)
 else (↑p.length : Int)).toNat)],
 V.bool true])
 else none
 else
 bif decide ((↑p.length : Int) ≤ (40 : Int)) then
 bif
 andT
 (andT true
 (Am.inC (if (1232 : Int) < (↑p.length : Int) then (1232 : Int) else (↑p.length : Int))
 p.length))
 (decide
 ((cutL p (0 : Nat)
 (if (1232 : Int) < (↑p.length : Int) then (1232 : Int)
 else (↑p.length : Int)).toNat).length ≤
 (140737488355328 : Nat))) then
 some
 (V.tup
 [V.agg
 [V.int IntKind.i64 k, V.int IntKind.i64 c, V.int IntKind.u32 wd,
 V.bytes
 (cutL p (0 : Nat)
 (if (1232 : Int) < (↑p.length : Int) then (1232 : Int)
 else (↑p.length : Int)).toNat)],
 V.bool true])
 else none
 else
 bif andT true (inB (40 : Int) p.length) then
 bif andT true (inB (40 : Int) p.length) then
 bif decide (IntKind.i64.wrap (gt p (40 : Nat)) ≥ (0 : Int)) then
 bif decide (IntKind.i64.wrap (gt p (40 : Nat)) < (128 : Int)) then
 some
 (V.tup
 [V.agg
 [V.int IntKind.i64 (0 : Int), V.int IntKind.i64 (0 : Int),
 V.int IntKind.u32 (0 : Int), V.bytes []],
 V.bool false])
 else
 bif
 andT
 (andT true
 (Am.inC
 (if (1232 : Int) < (↑p.length : Int) then (1232 : Int) else (↑p.length : Int))
 p.length))
 (decide
 ((cutL p (0 : Nat)
 (if (1232 : Int) < (↑p.length : Int) then (1232 : Int)
 else (↑p.length : Int)).toNat).length ≤
 (140737488355328 : Nat))) then
 some
 (V.tup
 [V.agg
 [V.int IntKind.i64 k, V.int IntKind.i64 c, V.int IntKind.u32 wd,
 V.bytes
 (cutL p (0 : Nat)
 (if (1232 : Int) < (↑p.length : Int) then (1232 : Int)
 else (↑p.length : Int)).toNat)],
 V.bool true])
 else none
 else
 bif
 andT
 (andT true
 (Am.inC (if (1232 : Int) < (↑p.length : Int) then (1232 : Int) else (↑p.length : Int))
 p.length))
 (decide
 ((cutL p (0 : Nat)
 (if (1232 : Int) < (↑p.length : Int) then (1232 : Int)
 else (↑p.length : Int)).toNat).length ≤
 (140737488355328 : Nat))) then
 some
 (V.tup
 [V.agg
 [V.int IntKind.i64 k, V.int IntKind.i64 c, V.int IntKind.u32 wd,
 V.bytes
 (cutL p (0 : Nat)
 (if (1232 : Int) < (↑p.length : Int) then (1232 : Int)
 else (↑p.length : Int)).toNat)],
 V.bool true])
 else none
 else none
 else none
 else
 some
 (V.tup
 [V.agg
 [V.int IntKind.i64 (0 : Int), V.int IntKind.i64 (0 : Int), V.int IntKind.u32 (0 : Int), V.bytes []],
 V.bool false])
 else
 some
 (V.tup
 [V.agg
 [V.int IntKind.i64 (0 : Int), V.int IntKind.i64 (0 : Int), V.int IntKind.u32 (0 : Int), V.bytes []],
 V.bool false]) := by kernel_rfl

theorem IAbout_v (k c wd : Int) (p : List UInt8) (hp : p.length ≤ 140737488351232) : callV E8b af_IAbout2 [.int .i64 k, .int .i64 c, .int .u32 wd, .bytes p] = some (.tup [.agg [.int .i64 (bI (abB k c p) k), .int .i64 (bI (abB k c p) c), .int .u32 (bI (abB k c p) wd), .bytes (bL (abB k c p) (p.take 1232))], .bool (abB k c p)]) := by
  rw [IAbout_t]
  have g := gt_lo p 40; have g' := gt_hi p 40
  have hm : (if (1232 : Int) < ↑p.length then (1232 : Int) else ↑p.length).toNat = min 1232 p.length := by split <;> omega
  have hm0 : 0 ≤ (if (1232 : Int) < ↑p.length then (1232 : Int) else ↑p.length) := by split <;> omega
  have hm1 : (if (1232 : Int) < ↑p.length then (1232 : Int) else ↑p.length) ≤ ↑p.length := by split <;> omega
  rw [hm, cutL_zero, inC_t hm0 hm1, w64 (by omega) (by omega)]
  have ht : p.take (min 1232 p.length) = p.take 1232 := by rw [← List.take_take, List.take_length]
  have hl : (p.take 1232).length ≤ 140737488355328 := by rw [List.length_take]; omega
  rw [ht, dec_t hl]
  clear hm hm0 hm1 hl ht
  cases hb : abB k c p with
  | true =>
    have hb' := of_decide_eq_true hb
    try simp only [andT_t, andT_f, cond_true, cond_false, Bool.and_true, Bool.true_and, beq_self_eq_true]
    repeat' (refine bcase (fun hbc => ?_) (fun hbc => ?_))
    all_goals try simp only [decide_eq_true_eq, beq_iff_eq, bne_iff_ne, ne_eq, Bool.and_eq_true, andT_and, inB_iff, inC_iff, nble_iff, nblt_iff, decide_eq_false_iff_not, Bool.not_eq_true', Bool.not_eq_false', beq_eq_false_iff_ne, bne_eq_false_iff_eq, Bool.true_and, Bool.and_true, inB_iff_f, inC_iff_f, nble_iff_f, Bool.or_eq_true, Bool.not_eq_true, Decidable.not_not] at *
    all_goals first | rfl | (exfalso; omega)
  | false =>
    have hb' := of_decide_eq_false hb
    try simp only [andT_t, andT_f, cond_true, cond_false, Bool.and_true, Bool.true_and, beq_self_eq_true]
    repeat' (refine bcase (fun hbc => ?_) (fun hbc => ?_))
    all_goals try simp only [decide_eq_true_eq, beq_iff_eq, bne_iff_ne, ne_eq, Bool.and_eq_true, andT_and, inB_iff, inC_iff, nble_iff, nblt_iff, decide_eq_false_iff_not, Bool.not_eq_true', Bool.not_eq_false', beq_eq_false_iff_ne, bne_eq_false_iff_eq, Bool.true_and, Bool.and_true, inB_iff_f, inC_iff_f, nble_iff_f, Bool.or_eq_true, Bool.not_eq_true, Decidable.not_not] at *
    all_goals first | rfl | (exfalso; omega)
theorem IAbout2_con : ∀ vs v, cIAbout vs = some (v, true) → SpecV Try.prog 148 vs v := by
  intro vs v h; unfold cIAbout at h; split at h
  · rename_i k c wd p
    injection h with h; injection h with h hb; subst h
    exact callV_ok E8b_ok af_IAbout2_ok (IAbout_v k c wd p (of_decide_eq_true hb))
  · cases h
end Go.Proofs.Ytbojofchpnfnlaa

namespace Go.Proofs.Ytbojofchpnfnlaa
open Go Go.Am Go.RowKit Go.Mix Go.Bas
set_option maxRecDepth 100000
end Go.Proofs.Ytbojofchpnfnlaa
