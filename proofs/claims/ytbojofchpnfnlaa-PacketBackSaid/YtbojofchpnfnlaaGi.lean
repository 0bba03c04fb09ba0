/- Part Gi of the proof: laws used by the law of this claim. -/
import Derived.Test.YtbojofchpnfnlaaProg
import Derived.Test.YtbojofchpnfnlaaGd
import Derived.Test.YtbojofchpnfnlaaGe
import Derived.Test.YtbojofchpnfnlaaGc
import Derived.Test.YtbojofchpnfnlaaGf
set_option linter.all false
namespace Go.Proofs.Ytbojofchpnfnlaa
open Go.RowKit Go.Mix Go.Bas

def octB (n : Int) : Bool := decide (0 ≤ n ∧ n ≤ 255)
def msg0 (kd cd wd : Int) (body : List UInt8) : List UInt8 := [b8 kd, b8 cd, 0, 0] ++ four wd ++ body
def putM (src dst : List UInt8) (kd cd wd : Int) (body : List UInt8) : List UInt8 :=
  if octB kd = true ∧ octB cd = true then (msg0 kd cd wd body).take 2 ++ (two (chk src dst 58 (msg0 kd cd wd body)) ++ (msg0 kd cd wd body).drop 4) else []
theorem octB_iff {n : Int} : octB n = true ↔ 0 ≤ n ∧ n ≤ 255 := by unfold octB; exact decide_eq_true_iff
theorem octB_not {n : Int} : octB n = false ↔ ¬ (0 ≤ n ∧ n ≤ 255) := by unfold octB; exact decide_eq_false_iff_not

theorem octet_calls (n : Int) (w : World) : Calls Try.prog 151 #[.int .i64 n] w fun e w' => e = .returned (.bool (octB n)) ∧ w = w' := by
  by_cases h0 : 0 ≤ n
  · by_cases h1 : n ≤ 255
    · have HB := hid (octB_iff.2 ⟨h0, h1⟩)
      go_enter Try.func151, Try.ntmps151
      go_wp2
      go_ret
      exact ⟨by rw [HB.out]; rfl, rfl⟩
    · have HB := hid (octB_not.2 (fun h => h1 h.2))
      go_enter Try.func151, Try.ntmps151
      go_wp2
      go_ret
      exact ⟨by rw [HB.out]; rfl, rfl⟩
  · have HB := hid (octB_not.2 (fun h => h0 h.1))
    go_enter Try.func151, Try.ntmps151
    go_wp2
    go_ret
    exact ⟨by rw [HB.out]; rfl, rfl⟩

set_option maxRecDepth 8000 in
set_option maxHeartbeats 1000000 in
theorem IPut_calls (src dst : List UInt8) (kd cd wd : Int) (A : Option Addr) (n c : Nat) (body : List UInt8) (w : World) (hs : src.length = 16) (hd : dst.length = 16) (h : Bs w A n c body) (hsz : n ≤ 140737488351232) (hw0 : 0 ≤ wd) (hw1 : wd < 4294967296) :
    Calls Try.prog 109 #[av src, av dst, .agg #[.int .i64 kd, .int .i64 cd, .int .u32 wd, .slice A n c]] w fun e w' => ∃ A' n' c', e = .returned (.slice A' n' c') ∧ Own w' w.heap.size 5 A' n' c' (putM src dst kd cd wd body) ∧ Below w.heap.size w w' := by
  obtain ⟨i0, hi, hz0, hz1, hz2⟩ := info_parts Try.infob
  unfold av
  have HH := hid h
  have HS := hid hs
  have HD := hid hd
  have HW1 := hid hw1
  clear h hs hd hw1
  by_cases k0 : octB kd = true
  · by_cases k1 : octB cd = true
    · have hput : putM src dst kd cd wd body = (msg0 kd cd wd body).take 2 ++ (two (chk src dst 58 (msg0 kd cd wd body)) ++ (msg0 kd cd wd body).drop 4) := if_pos ⟨k0, k1⟩
      have HP := hid hput
      have r0 := octB_iff.1 k0
      have r1 := octB_iff.1 k1
      obtain ⟨r00, r01⟩ := r0
      obtain ⟨r10, r11⟩ := r1
      have K0 := hid k0
      have K1 := hid k1
      clear hput k0 k1
      go_enter Try.func109, Try.ntmps109
      go_wp2_with fail
      refine (octet_calls _ _).mono ?_; rintro e w' ⟨rfl, rfl⟩
      rw [K0.out]
      go_wp2_with fail
      refine (octet_calls _ _).mono ?_; rintro e w' ⟨rfl, rfl⟩
      rw [K1.out]
      go_wp2_with fail
      refine calls_name ?_; intro w4 hw4
      have hS : Blk w4 w.heap.size 39 (src.map bv) := by rw [hw4]; exact (((Blk.new _ _ _).alloc _).alloc _).alloc _
      have hD : Blk w4 (w.heap.size + 1) 39 (dst.map bv) := by rw [hw4]; exact ((Blk.new_at _ _ _ (by simp)).alloc _).alloc _
      have hM : Blk w4 (w.heap.size + 1 + 1) 64 [.int .i64 kd, .int .i64 cd, .int .u32 wd, .slice A n c] := by rw [hw4]; exact (Blk.new_at _ _ _ (by simp)).alloc _
      have ho4 : Own w4 w.heap.size 5 (some ⟨w.heap.size + 1 + 1 + 1, 0, none⟩) 4 4 [b8 kd, b8 cd, 0, 0] := by
        rw [hw4]; exact Own.made_at _ _ _ _ (by simp) rfl (by simp [bv_b8]; exact ⟨by omega, by omega, rfl⟩) (by simp) (by simp; omega)
      have hb4 : Below w.heap.size w w4 := by rw [hw4]; exact ((((Below.refl _ _).alloc (Nat.le_refl _) _).alloc (by simp) _).alloc (by simp; omega) _).alloc (by simp; omega) _
      have hx4 := hb4.size
      clear hw4
      refine (Put32_calls w.heap.size _ _ _ _ _ _ ho4 hx4 (by omega) hw0 HW1.out).mono ?_; rintro e w5 ⟨A5, n5, c5, rfl, ho5, hg5⟩
      have hS5 := hS.grown hg5 (ho4.apart hS (by decide))
      have hD5 := hD.grown hg5 (ho4.apart hD (by decide))
      have hM5 := hM.grown hg5 (ho4.apart hM (by decide))
      have hb5 := hb4.trans (below_grown hg5 ho4 (Nat.le_refl _) hx4)
      have hn5 : n5 = 8 := by have := ho5.len; simpa [four] using this
      subst hn5
      have c3 := hM5.cell (j := 3) rfl
      have hx5 := hb5.size
      have HS5 := hid hS5
      have HD5 := hid hD5
      have HB5 := hid hb5
      clear hS hD hM ho4 hb4 hg5 hS5 hD5 hM5 hb5 hx4
      go_wp2_with (at_builtin; refine stop ?_)
      refine Stop.on (wpList_app rfl _ _ 24 rfl 5 i0 Try.underlying24 hi hz0 hz1 hz2 w.heap.size _ _ rfl rfl ho5 (HH.out.step HB5.out) (by omega) hx5 ?_)
      intro A6 n6 c6 w6 ho6 hg6
      have hS6 := HS5.out.grown hg6 (ho5.apart HS5.out (by decide))
      have hD6 := HD5.out.grown hg6 (ho5.apart HD5.out (by decide))
      have hb6 := HB5.out.trans (below_grown hg6 ho5 (Nat.le_refl _) hx5)
      have hn6 : n6 ≤ 140737488351240 := by have := ho6.len_app ho5; have e := HH.out.len; omega
      have hi16 : (Try.prog.info? 39).map (·.size) = some 16 := by kernel_rfl
      have HLS := hid (hS6.ld_all (P := Try.prog) Try.underlying39 rfl (by rw [List.length_map, HS.out]; exact hi16))
      have HLD := hid (hD6.ld_all (P := Try.prog) Try.underlying39 rfl (by rw [List.length_map, HD.out]; exact hi16))
      have HB6 := hid hb6
      have HO6 : Hid (Own w6 w.heap.size 5 A6 n6 c6 (msg0 kd cd wd body)) := hid ho6
      clear hg6 ho5 c3 HS5 HD5 HB5 hS6 hD6 hb6 hi16 ho6
      go_wp2_with (with_reducible refine wpList_ld rfl (.agg (src.map bv).toArray) 39 (.tmp 3) (.pointer (some ⟨w.heap.size, 0, none⟩)) rfl rfl (HLS.out) ?_; refine stop ?_)
      refine Stop.on ?_
      go_wp2_with (with_reducible refine wpList_ld rfl (.agg (dst.map bv).toArray) 39 (.tmp 4) (.pointer (some ⟨w.heap.size + 1, 0, none⟩)) rfl rfl (HLD.out) ?_; refine stop ?_)
      refine Stop.on ?_
      go_wp2_with fail
      refine (Check_calls src dst 58 A6 n6 c6 (msg0 kd cd wd body) _ HS.out HD.out HO6.out.bs (by omega)).mono ?_; rintro e w7 ⟨rfl, hb7⟩
      have HB7 := hid (below_next HB6.out hb7)
      have HO7 := hid (HO6.out.step hb7)
      clear hb7 HLS HLD HB6 HO6
      go_wp2_with fail
      refine (Set16_calls A6 n6 c6 (msg0 kd cd wd body) 2 _ _ HO7.out.bs (by omega)).mono ?_; rintro e w8 ⟨A8, n8, c8, rfl, ho8, hb8⟩
      have hset : set16 (msg0 kd cd wd body) 2 (chk src dst 58 (msg0 kd cd wd body)) = (putM src dst kd cd wd body, true) := by
        rw [HP.out]; unfold set16; rw [if_pos ⟨by omega, by simp [msg0, four]; omega⟩]; rfl
      rw [hset] at ho8
      rw [hset]
      have hb8' := below_next HB7.out hb8
      have hx7 := HB7.out.size
      clear hset hb8 HO7 HB7
      go_wp2
      go_ret
      exact ⟨_, _, _, rfl, ho8.mono hx7, hb8'⟩
    · have k1' : octB cd = false := by simpa using k1
      have hput : putM src dst kd cd wd body = [] := if_neg (fun h => k1 h.2)
      have HP := hid hput
      have K0 := hid k0
      have K1 := hid k1'
      clear hput k0 k1 k1'
      go_enter Try.func109, Try.ntmps109
      go_wp2_with fail
      refine (octet_calls _ _).mono ?_; rintro e w' ⟨rfl, rfl⟩
      rw [K0.out]
      go_wp2_with fail
      refine (octet_calls _ _).mono ?_; rintro e w' ⟨rfl, rfl⟩
      rw [K1.out]
      go_wp2
      go_ret
      exact ⟨_, _, _, rfl, by rw [HP.out]; exact Own.nil _ _ _, (((Below.refl _ _).alloc (Nat.le_refl _) _).alloc (by simp) _).alloc (by simp; omega) _⟩
  · have k0' : octB kd = false := by simpa using k0
    have hput : putM src dst kd cd wd body = [] := if_neg (fun h => k0 h.1)
    have HP := hid hput
    have K0 := hid k0'
    clear hput k0 k0'
    go_enter Try.func109, Try.ntmps109
    go_wp2_with fail
    refine (octet_calls _ _).mono ?_; rintro e w' ⟨rfl, rfl⟩
    rw [K0.out]
    go_wp2
    go_ret
    exact ⟨_, _, _, rfl, by rw [HP.out]; exact Own.nil _ _ _, (((Below.refl _ _).alloc (Nat.le_refl _) _).alloc (by simp) _).alloc (by simp; omega) _⟩
end Go.Proofs.Ytbojofchpnfnlaa

namespace Go.Proofs.Ytbojofchpnfnlaa
open Go.RowKit Go.Mix Go.Bas

end Go.Proofs.Ytbojofchpnfnlaa

namespace Go.Proofs.Ytbojofchpnfnlaa
open Go Go.Am Go.RowKit Go.Mix Go.Bas
section
set_option maxRecDepth 100000
end
end Go.Proofs.Ytbojofchpnfnlaa

namespace Go.Proofs.Ytbojofchpnfnlaa
open Go Go.Am Go.RowKit Go.Mix Go.Bas

theorem msg_inv {O : Nat → Prop} {w : World} {kd cd wd : Int} {body : List UInt8} {c : Value} (h : VRep no O w (.agg [.int .i64 kd, .int .i64 cd, .int .u32 wd, .bytes body]) c) :
    ∃ A n k, c = .agg #[.int .i64 kd, .int .i64 cd, .int .u32 wd, .slice A n k] ∧ Bs w A n k body := by
  obtain ⟨cs, rfl, hc⟩ := h.agg_inv rfl
  cases hc with
  | agg h1 =>
    cases h1 with
    | cons a h1 =>
      cases a
      cases h1 with
      | cons a h1 =>
        cases a
        cases h1 with
        | cons a h1 =>
          cases a
          cases h1 with
          | cons a h1 =>
            cases h1
            cases a with
            | bytes hb _ => exact ⟨_, _, _, rfl, hb⟩
def cPut : List V → Option (V × Bool)
  | [.barr 16 s, .barr 16 d, .agg [.int .i64 kd, .int .i64 cd, .int .u32 wd, .bytes body]] => some (.ownv 5 (.bytes (putM s d kd cd wd body)), decide (body.length ≤ 140737488351232 ∧ 0 ≤ wd ∧ wd < 4294967296))
  | _ => none
theorem IPut_con : ∀ vs v, cPut vs = some (v, true) → SpecV Try.prog 109 vs v := by
  intro vs v h; unfold cPut at h; split at h
  · injection h with h; injection h with h hb; subst h
    have hb := of_decide_eq_true hb
    intro O w cs hO hv
    obtain ⟨a, b, c, rfl, ha, hb', hc⟩ := hv.three_inv
    obtain ⟨rfl, h1⟩ := ha.barr_inv
    obtain ⟨rfl, h2⟩ := hb'.barr_inv
    obtain ⟨A, n, k, rfl, hA⟩ := msg_inv hc
    exact kOwn (IPut_calls _ _ _ _ _ _ _ _ _ _ h1 h2 hA (by have := hA.len; omega) hb.2.1 hb.2.2)
  · cases h
end Go.Proofs.Ytbojofchpnfnlaa

namespace Go.Proofs.Ytbojofchpnfnlaa
open Go Go.Am Go.RowKit Go.Mix Go.Bas
def parI (e x : Int) : Int := if e = 0 then x else 0
def parA (e : Int) (l : List UInt8) : List UInt8 := if e = 0 then l else List.replicate 16 0
def geE (b : List UInt8) : Int := if b.length < 40 then 3 else if gt b 0 / 16 = 6 then 0 else 5
def hC (b : List UInt8) : Int := parI (geE b) (gt b 0 % 16 * 16 + gt b 1 / 16)
def hS (b : List UInt8) : List UInt8 := parA (geE b) (cutL b 8 24)
def hD (b : List UInt8) : List UInt8 := parA (geE b) (cutL b 24 40)
set_option maxRecDepth 100000
end Go.Proofs.Ytbojofchpnfnlaa

namespace Go.Proofs.Ytbojofchpnfnlaa
open Go Go.Am Go.RowKit Go.Mix Go.Bas
set_option maxRecDepth 100000
noncomputable def af_IParse : AF := afOf Try.prog Try.f214 []
theorem af_IParse_ok : AllOk Try.prog 214 af_IParse := .flat Try.func214 (by kernel_rfl) (by kernel_rfl) (by kernel_rfl) (by kernel_rfl) (by kernel_rfl)
noncomputable def af_ISame : AF := afOf Try.prog Try.f55 []
theorem af_ISame_ok : AllOk Try.prog 55 af_ISame := .flat Try.func55 (by kernel_rfl) (by kernel_rfl) (by kernel_rfl) (by kernel_rfl) (by kernel_rfl)
noncomputable def GE8b : List (Nat × Con) := [(70, .val [.bytes, .int .i64] cU32), (76, .val [.barr 16, .barr 16, .int .i64, .bytes] cFine), (69, .val [.bytes] cClone)]

theorem GE8b_ok : GOk Try.prog GE8b := .cons (enters_of Try.func70 (by kernel_rfl) rfl) U32_con <| .cons (enters_of Try.func76 (by kernel_rfl) rfl) Fine_con <| .cons (enters_of Try.func69 (by kernel_rfl) rfl) Clone_con <| .nil

noncomputable def IE8b : List (Nat × AF) := []

theorem IE8b_ok : IOk Try.prog IE8b := .nil

noncomputable def CE8b : List (Nat × (List Nat × (S → Option S))) := []
theorem CE8b_ok : COk Try.prog CE8b := .nil
noncomputable def XE8b : List (Nat × (List Sh × (List V → PT))) := []
theorem XE8b_ok : XOk Try.prog XE8b := .nil
noncomputable def E8b : Env := ⟨Try.prog, GE8b, IE8b, CE8b, XE8b⟩
theorem E8b_ok : EnvOk E8b := ⟨by kernel_rfl, GE8b_ok, IE8b_ok, CE8b_ok, XE8b_ok⟩
def ipE (s d b : List UInt8) : Int := if b.length < 8 then 3 else if both s d 58 b = 65535 then 0 else 6
def parL (e : Int) (l : List UInt8) : List UInt8 := if e = 0 then l else []
def ipV (s d b : List UInt8) : V := .tup [.agg [.int .i64 (parI (ipE s d b) (gt b 0)), .int .i64 (parI (ipE s d b) (gt b 1)), .int .u32 (parI (ipE s d b) (be32 b 4)), .bytes (parL (ipE s d b) (b.drop 8))], .int .i64 (ipE s d b)]
def cIParse : List V → Option (V × Bool)
  | [.barr 16 s, .barr 16 d, .bytes b] => some (ipV s d b, decide (b.length ≤ 1048576))
  | _ => none
def smB (kd cd wd : Int) (b : List UInt8) (kd' cd' wd' : Int) (b' : List UInt8) : Bool := decide (kd = kd' ∧ cd = cd' ∧ wd = wd' ∧ b = b')
def cISame : List V → Option (V × Bool)
  | [.agg [.int .i64 kd, .int .i64 cd, .int .u32 wd, .bytes b], .agg [.int .i64 ke, .int .i64 ce, .int .u32 we, .bytes be]] => some (.bool (smB kd cd wd b ke ce we be), true)
  | _ => none
theorem IParse_t (s d b : List UInt8) : callV E8b af_IParse [.barr 16 s, .barr 16 d, .bytes b] =
 bif decide ((↑b.length : Int) < (8 : Int)) then
 some
 (V.tup
 [V.agg [V.int IntKind.i64 (0 : Int), V.int IntKind.i64 (0 : Int), V.int IntKind.u32 (0 : Int), V.bytes []],
 V.int IntKind.i64 (3 : Int)])
 else
 bif andT true (decide (b.length ≤ (140737488355327 : Nat))) then
 bif !both s d (58 : Int) b == (65535 : Int) then
 some
 (V.tup
 [V.agg [V.int IntKind.i64 (0 : Int), V.int IntKind.i64 (0 : Int), V.int IntKind.u32 (0 : Int), V.bytes []],
 V.int IntKind.i64 (6 : Int)])
 else
 bif
 andT (andT (andT (andT true (inB (0 : Int) b.length)) (inB (1 : Int) b.length)) (Am.inC (8 : Int) b.length))
 (decide ((cutL b (8 : Nat) b.length).length ≤ (140737488355328 : Nat))) &&
 true then
 some
 (V.tup
 [V.agg
 [V.int IntKind.i64 (IntKind.i64.wrap (gt b (0 : Nat))),
 V.int IntKind.i64 (IntKind.i64.wrap (gt b (1 : Nat))), V.int IntKind.u32 (u32 b (4 : Int)).1,
 V.bytes (cutL b (8 : Nat) b.length)],
 V.int IntKind.i64 (0 : Int)])
 else none
 else none := by kernel_rfl

theorem ISame_t (kd cd wd : Int) (b : List UInt8) (kd' cd' wd' : Int) (b' : List UInt8) : callV E8b af_ISame [.agg [.int .i64 kd, .int .i64 cd, .int .u32 wd, .bytes b], .agg [.int .i64 kd', .int .i64 cd', .int .u32 wd', .bytes b']] =
 bif kd == kd' then
 bif cd == cd' then bif wd == wd' then some (V.bool (b == b')) else some (V.bool false) else some (V.bool false)
 else some (V.bool false) := by kernel_rfl

theorem IParse_v (s d b : List UInt8) (hb : b.length ≤ 1048576) : callV E8b af_IParse [.barr 16 s, .barr 16 d, .bytes b] = some (ipV s d b) := by
  rw [IParse_t]
  unfold ipV
  have g0 := gt_lo b 0; have g0' := gt_hi b 0
  have g1 := gt_lo b 1; have g1' := gt_hi b 1
  by_cases h : b.length < 8
  · have he : ipE s d b = 3 := if_pos h
    rw [he]
    simp (disch := omega) only [dec_t, dec_f, inB_t, inC_t, andT_t, cond_true, cond_false, Bool.and_true, Bool.true_and, w64, wu32, wu8, nble_t, nblt_t, Bool.not_true, Bool.not_false, Bool.not_not]
    rfl
  · have hu : (u32 b 4).1 = be32 b 4 := by unfold u32; rw [if_pos (by omega)]; rfl
    have hl : (cutL b 8 b.length).length ≤ 140737488355328 := by rw [length_cutL]; omega
    rw [hu]
    by_cases h2 : both s d 58 b = 65535
    · have he : ipE s d b = 0 := by unfold ipE; rw [if_neg h, if_pos h2]
      rw [he, ieq_t h2]
      simp (disch := omega) only [dec_t, dec_f, inB_t, inC_t, andT_t, cond_true, cond_false, Bool.and_true, Bool.true_and, w64, wu32, wu8, nble_t, nblt_t, Bool.not_true, Bool.not_false, Bool.not_not]
      rw [cutL_all]
      rfl
    · have he : ipE s d b = 6 := by unfold ipE; rw [if_neg h, if_neg h2]
      rw [he, ieq_f h2]
      simp (disch := omega) only [dec_t, dec_f, inB_t, inC_t, andT_t, cond_true, cond_false, Bool.and_true, Bool.true_and, w64, wu32, wu8, nble_t, nblt_t, Bool.not_true, Bool.not_false, Bool.not_not]
      rfl
theorem ISame_v (kd cd wd : Int) (b : List UInt8) (kd' cd' wd' : Int) (b' : List UInt8) : callV E8b af_ISame [.agg [.int .i64 kd, .int .i64 cd, .int .u32 wd, .bytes b], .agg [.int .i64 kd', .int .i64 cd', .int .u32 wd', .bytes b']] = some (.bool (smB kd cd wd b kd' cd' wd' b')) := by
  rw [ISame_t]
  unfold smB
  have hq : (b == b') = decide (b = b') := by
    by_cases h : b = b'
    · rw [decide_eq_true h, beq_iff_eq.2 h]
    · rw [decide_eq_false h, beq_eq_false_iff_ne.2 h]
  rw [hq]
  by_cases h1 : kd = kd'
  · rw [ieq_t h1]
    by_cases h2 : cd = cd'
    · rw [ieq_t h2]
      by_cases h3 : wd = wd'
      · rw [ieq_t h3]
        simp [h1, h2, h3]
      · rw [ieq_f h3]; simp [h3]
    · rw [ieq_f h2]; simp [h2]
  · rw [ieq_f h1]; simp [h1]
theorem IParse_con : ∀ vs v, cIParse vs = some (v, true) → SpecV Try.prog 214 vs v := by
  intro vs v h; unfold cIParse at h; split at h
  · rename_i s d b
    injection h with h; injection h with h hb; subst h
    exact callV_ok E8b_ok af_IParse_ok (IParse_v s d b (of_decide_eq_true hb))
  · cases h
theorem ISame_con : ∀ vs v, cISame vs = some (v, true) → SpecV Try.prog 55 vs v := by
  intro vs v h; unfold cISame at h; split at h
  · rename_i kd cd wd b ke ce we be
    injection h with h; injection h with h hb; subst h
    exact callV_ok E8b_ok af_ISame_ok (ISame_v kd cd wd b ke ce we be)
  · cases h
end Go.Proofs.Ytbojofchpnfnlaa

namespace Go.Proofs.Ytbojofchpnfnlaa
open Go Go.Am Go.RowKit Go.Mix Go.Bas
set_option maxRecDepth 100000
theorem smB_refl (k c w : Int) (b : List UInt8) : smB k c w b k c w b = true := decide_eq_true ⟨rfl, rfl, rfl, rfl⟩
theorem gt_b8 (n : Int) : ((b8 n).toNat : Int) = n % 256 := b8_toNat n
theorem putM_cons (s d : List UInt8) (kd cd wd : Int) (b : List UInt8) (h1 : 0 ≤ kd ∧ kd ≤ 255) (h2 : 0 ≤ cd ∧ cd ≤ 255) : ∃ x y, putM s d kd cd wd b = b8 kd :: b8 cd :: x :: y :: b8 (wd / 16777216) :: b8 (wd / 65536) :: b8 (wd / 256) :: b8 wd :: b := by
  unfold putM
  rw [if_pos ⟨octB_iff.2 h1, octB_iff.2 h2⟩]
  exact ⟨_, _, rfl⟩
end Go.Proofs.Ytbojofchpnfnlaa
