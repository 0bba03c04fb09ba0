/- Part Gal of the proof: laws used by the law of this claim. -/
import Derived.Test.YtbgfpemjdomanaaDoorGak
set_option linter.all false
namespace Go.Proofs.YtbgfpemjdomanaaDoor
open Go Go.Am Go.RowKit Go.Mix Go.Bas
set_option maxRecDepth 100000
def awB (m w : List V) : List (Nat × Option Blk) := [(0, some (.var (.barr 16) (.barr 16 (List.replicate 16 0)))), (1, some (.row 3 (.int .i64) (.rows (.int .i64) m))), (2, some (.row 3 (.int .i64) (.rows (.int .i64) w)))]
def awS (m w : List V) : S := ⟨[(2, .ref 0 [] 0 (.barr 16)), (9, .own 1 m.length (.int .i64)), (12, .own 2 w.length (.int .i64))], awB m w, 3, true, 70⟩
structure AwI where
  (m w : List V)
def awGet (s : S) : AwI := ⟨toR (bkD s 1), toR (bkD s 2)⟩
def awI (x : AwI) : Prop := x.m.length ≤ 1000 ∧ x.w.length ≤ 1000
/-- numbers, and zeros behind them until there are eight -/
def awW (m w : List V) : List V := w ++ List.replicate (8 - (w.length + m.length)) (.int .i64 0)
def awO (x : AwI) : Tr := .leaf (.exit 0) (awS x.m (awW x.m x.w))
noncomputable def awG : S → Option (Bool × Tr) := gX awGet (fun x => awS x.m x.w) awI awO
noncomputable def af_adReadX : AF := afOf Tryd.prog Tryd.f14 [.sum [2, 9, 12] [] awG]
noncomputable def awC : AC := (af_adReadX.ac.sums.headD (.skip, [], [], fun _ => none)).1
theorem aw_b (m w : List V) : aev Eadrs (inlN Eadrs 6) awC (bodyF (Am.ways [2, 9, 12] [2, 9, 12] []) []) (awS m w) =
 bif decide (IntKind.i64.wrap ((↑w.length : Int) + (↑m.length : Int)) < (8 : Int)) then
 bif
 andT true
 (((w ++ V.int IntKind.i64 (0 : Int) :: List.replicate (nat_lit 0) (V.int IntKind.i64 (0 : Int))).length *
 (8 : Nat)).ble
 (140737488355328 : Nat)) then
 some
 (Ex.normal,
 awS m (w ++ V.int IntKind.i64 (0 : Int) :: List.replicate (nat_lit 0) (V.int IntKind.i64 (0 : Int))))
 else none
 else some (Ex.exit (0 : Nat), awS m w) := by kernel_rfl

theorem aw_loop : LoopOk Tryd.prog awC.erase [] awG := by
  refine loopX_ok Eadrs_ok (d := 6) (AC.flat_ok (by kernel_rfl)) (Am.ways [2, 9, 12] [2, 9, 12] []) [] awGet _ awO awI (fun x => 8 - (x.w.length + x.m.length)) (fun _ => rfl) ?_
  rintro ⟨m, w⟩ ⟨h0, h1⟩
  simp only at h0 h1 ⊢
  rw [aw_b, w64 (by omega) (by omega)]
  by_cases c : w.length + m.length < 8
  · have hl : (w ++ V.int .i64 (0 : Int) :: List.replicate (nat_lit 0) (V.int .i64 (0 : Int))).length = w.length + 1 := by simp
    rw [dec_t (show (w.length : Int) + (m.length : Int) < 8 by omega), hl, show ((w.length + 1) * 8).ble 140737488355328 = true from Nat.ble_eq.mpr (by omega)]
    refine .inl ⟨⟨m, w ++ [.int .i64 0]⟩, rfl, ⟨h0, by show (w ++ [V.int .i64 0]).length ≤ 1000; rw [List.length_append, List.length_singleton]; omega⟩, by show 8 - ((w ++ [V.int .i64 0]).length + m.length) < 8 - (w.length + m.length); rw [List.length_append, List.length_singleton]; omega, leaf_eq ?_⟩
    unfold awO awW
    dsimp only
    rw [List.length_append, List.length_singleton, List.append_assoc, show 8 - (w.length + m.length) = (8 - (w.length + 1 + m.length)) + 1 by omega, List.replicate_succ]
    rfl
  · refine .inr ⟨.exit 0, awS m w, ?_, nofun, ?_⟩
    · rw [dec_f (show ¬ (w.length : Int) + (m.length : Int) < 8 by omega)]
      rfl
    · unfold awO awW
      dsimp only
      rw [show 8 - (w.length + m.length) = 0 by omega, List.replicate_zero, List.append_nil]
      exact .leaf
theorem af_adReadX_ok : AllOk Tryd.prog 14 af_adReadX := .sums Tryd.func14 (by kernel_rfl) (by kernel_rfl) (by kernel_rfl) (by kernel_rfl) (sums_one (c := awC) (ts := [2, 9, 12]) (by kernel_rfl) (by kernel_rfl) aw_loop)
def arN : Option V := some (V.tup [V.barr 16 (List.replicate 16 0), V.int .i64 5])
noncomputable def arT (l m : List V) : Option V := bif okG (awS m l = awS m l ∧ awI ⟨m, l⟩) then bif andT (andT true (((awW m l ++ m).length * 8).ble 140737488355328)) (decide ((awW m l ++ m).length ≤ 20)) then some (.tup [.barr 16 (ofL (awW m l ++ m)), .int .i64 0]) else none else none
noncomputable def arU (h t : List UInt8) (c : Bool) : Option V := bif andT true (decide (h.length ≤ 900)) then bif andT true (decide (t.length ≤ 900)) then bif !gsB h then arN else bif !gsB t then arN else
  bif c then (bif decide (IntKind.i64.wrap (((gsL h).length : Int) + ((gsL t).length : Int)) ≥ 8) then arN else bif !c then (bif IntKind.i64.wrap (((gsL h).length : Int) + ((gsL t).length : Int)) != 8 then arN else arT (gsL h) (gsL t)) else arT (gsL h) (gsL t))
  else (bif !c then (bif IntKind.i64.wrap (((gsL h).length : Int) + ((gsL t).length : Int)) != 8 then arN else arT (gsL h) (gsL t)) else arT (gsL h) (gsL t)) else none else none
theorem adReadX_u (s : List UInt8) : callV Eadrs af_adReadX [.str s] = bif andT true (decide (s.length < 4294967281)) then arU (cut1 s [58, 58]) (cut2 s [58, 58]) (cut3 s [58, 58]) else none := by kernel_rfl
theorem arT_v {l m : List V} (h : l.length + m.length ≤ 8) : arT l m = some (.tup [.barr 16 (ofL (adW l m)), .int .i64 0]) := by
  have e : awW m l ++ m = adW l m := by unfold awW adW; rw [List.append_assoc]
  have hl : (adW l m).length = 8 := by unfold adW; simp only [List.length_append, List.length_replicate]; omega
  unfold arT
  rw [e, hl, okG_t ⟨rfl, by show m.length ≤ 1000; omega, by show l.length ≤ 1000; omega⟩]
  rfl
theorem adReadX_v (s : List UInt8) (h : s.length ≤ 900) : callV Eadrs af_adReadX [.str s] = some (rdAns (rdQ s)) := by
  rw [adReadX_u, dec_t (show s.length < 4294967281 by omega), cut3_at]
  unfold rdQ
  simp only [rg_b, rg_l]
  rcases rdAt_rng s with ha | ⟨ha0, ha1⟩
  · have hc := cut_no s (by omega)
    rw [hc.1, hc.2, if_pos (by omega), decide_eq_false (show ¬ 0 ≤ rdAt s by omega)]
    have e0 : gsL ([] : List UInt8) = [] := rfl
    have hlen := rgL_len s
    rw [rg_l] at hlen
    unfold arU
    rw [dec_t h, e0, show gsB ([] : List UInt8) = true from rfl, List.length_nil, show (((gsL s).length : Int) + ((([] : List V).length : Nat) : Int)) = ((gsL s).length : Int) by simp, w64 (by omega) (by omega)]
    cases gsB s with
    | false => rfl
    | true =>
      by_cases h8 : (gsL s).length = 8
      · rw [if_pos ⟨rfl, h8⟩, show (((gsL s).length : Int) != 8) = false by rw [h8]; rfl, arT_v (by rw [h8]; decide)]
        have : adW (gsL s) [] = gsL s := by unfold adW; rw [h8]; simp
        rw [this]
        rfl
      · rw [if_neg (fun e => h8 e.2), show (((gsL s).length : Int) != 8) = true by simp; omega]
        rfl
  · have hc := cut_yes s h (by omega)
    rw [hc.1, hc.2, if_neg (by omega), decide_eq_true (show 0 ≤ rdAt s by omega)]
    have hA := cutL_le s 0 (rdAt s).toNat
    have hB := cutL_le s (IntKind.i64.wrap (rdAt s + 2)).toNat s.length
    have lA := rgL_len (rdA s)
    have lB := rgL_len (rdB s)
    rw [rg_l] at lA lB
    have eA : (rdA s).length ≤ 900 := by unfold rdA; omega
    have eB : (rdB s).length ≤ 900 := by unfold rdB; omega
    unfold arU
    rw [dec_t eA, dec_t eB, w64 (by omega) (by omega)]
    cases gsB (rdA s) with
    | false => rfl
    | true =>
      cases gsB (rdB s) with
      | false => rfl
      | true =>
        by_cases h7 : (gsL (rdA s)).length + (gsL (rdB s)).length ≤ 7
        · rw [if_pos ⟨rfl, rfl, h7⟩, dec_f (show ¬ (((gsL (rdA s)).length : Int) + ((gsL (rdB s)).length : Int) ≥ 8) by omega), arT_v (by omega), rdW_eq s (by rw [rg_l, rg_l]; exact h7)]
          rfl
        · rw [if_neg (fun e => h7 e.2.2), dec_t (show ((gsL (rdA s)).length : Int) + ((gsL (rdB s)).length : Int) ≥ 8 by omega)]
          rfl
end Go.Proofs.YtbgfpemjdomanaaDoor

namespace Go.Proofs.YtbgfpemjdomanaaDoor
open Go Go.Am Go.RowKit Go.Mix Go.Bas
set_option maxRecDepth 100000
def rqA (s : List UInt8) : List UInt8 := match rdQ s with
  | some l => ofL l
  | none => List.replicate 16 0
def rqE (s : List UInt8) : Int := match rdQ s with
  | some _ => 0
  | none => 5
theorem rdAns_eq (s : List UInt8) : rdAns (rdQ s) = .tup [.barr 16 (rqA s), .int .i64 (rqE s)] := by
  unfold rdAns rqA rqE
  cases rdQ s <;> rfl
def cRead3 : List V → Option (V × Bool)
  | [.str s] => some (.tup [.barr 16 (rqA s), .int .i64 (rqE s)], decide (s.length ≤ 900))
  | _ => none
theorem adReadX_con : ∀ vs v, cRead3 vs = some (v, true) → SpecV Tryd.prog 14 vs v := by
  intro vs v h; unfold cRead3 at h; split at h
  · rename_i s
    injection h with h; injection h with h hb; subst h
    exact callV_ok Eadrs_ok af_adReadX_ok ((by rw [adReadX_v _ (of_decide_eq_true hb), rdAns_eq]))
  · cases h
noncomputable def af_AddrBack : AF := afOf Tryd.prog Tryd.f5 []
theorem af_AddrBack_ok : AllOk Tryd.prog 5 af_AddrBack := .flat Tryd.func5 (by kernel_rfl) (by kernel_rfl) (by kernel_rfl) (by kernel_rfl) (by kernel_rfl)
noncomputable def GEadk : List (Nat × Con) := [(8, .val [.barr 16] cAdText), (14, .val [.str] cRead3), (7, .val [] cTru)]
theorem GEadk_ok : GOk Tryd.prog GEadk := .cons (enters_of Tryd.func8 (by kernel_rfl) rfl) adText_con <| .cons (enters_of Tryd.func14 (by kernel_rfl) rfl) adReadX_con <| .cons (enters_of Tryd.func7 (by kernel_rfl) rfl) lives03_con <| .nil
noncomputable def IEadk : List (Nat × AF) := []
theorem IEadk_ok : IOk Tryd.prog IEadk := .nil
noncomputable def CEadk : List (Nat × (List Nat × (S → Option (Bool × Tr)))) := []
theorem CEadk_ok : COk Tryd.prog CEadk := .nil
noncomputable def XEadk : List (Nat × (List Sh × (List V → PT))) := []
theorem XEadk_ok : XOk Tryd.prog XEadk := .nil
noncomputable def Eadk : Env := ⟨Tryd.prog, GEadk, IEadk, CEadk, XEadk⟩
theorem Eadk_ok : EnvOk Eadk := ⟨by kernel_rfl, GEadk_ok, IEadk_ok, CEadk_ok, XEadk_ok⟩
def sh_AddrBack : List Sh := [.barr 16, .barr 16]
theorem AddrBack_t (a : List UInt8) (b : List UInt8) : callV Eadk af_AddrBack [.barr 16 a, .barr 16 b] =
 bif andT true (decide ((adT a).length ≤ (900 : Nat))) then
 bif rqA (adT a) == a then
 bif rqE (adT a) == (0 : Int) then
 bif (adT a == adT b) == (a == b) then some (V.bool true) else some (V.bool false)
 else some (V.bool false)
 else some (V.bool false)
 else none := by kernel_rfl

theorem adT_len (a : List UInt8) : (adT a).length ≤ 900 := by
  have hr := rwF_rng (wdL a) 0 0 0 (Int.le_refl _) (Int.le_refl _) (Int.le_refl _) (by rw [show (wdL a).length = 8 from rfl]; decide)
  have h8 : (wdL a).length = 8 := rfl
  unfold adT txF
  generalize wdL a = w at *
  split
  · have := jnF_len w
    omega
  · have h1 := jnF_len (w.take (rwF w 0 0 0).1.toNat)
    have h2 := jnF_len (w.drop ((rwF w 0 0 0).1 + (rwF w 0 0 0).2).toNat)
    rw [List.length_take] at h1
    rw [List.length_drop] at h2
    simp only [List.length_append, List.length_cons, List.length_nil]
    omega
theorem AddrBack_v : ∀ xs, inRs 140737488351232 sh_AddrBack xs = true → callV Eadk af_AddrBack xs = some (.bool true) := by
  intro xs h
  obtain ⟨zx1, zl1, rfl, zh1, zr1⟩ := inRs_cons h; clear h
  obtain ⟨a, rfl, ha⟩ := inR_barr zh1; clear zh1
  obtain ⟨zx2, zl2, rfl, zh2, zr2⟩ := inRs_cons zr1; clear zr1
  obtain ⟨b, rfl, hb⟩ := inR_barr zh2; clear zh2
  obtain rfl := inRs_nil zr2; clear zr2
  rw [AddrBack_t]
  have e1 : rqA (adT a) = a := by
    unfold rqA
    rw [ad_back]
    exact of_wd a (by omega)
  have e2 : rqE (adT a) = 0 := by
    unfold rqE
    rw [ad_back]
  have e3 : (adT a == adT b) = (a == b) := by
    by_cases c : a = b
    · subst c; simp
    · rw [show (a == b) = false by simpa using c]
      simp only [beq_eq_false_iff_ne, ne_eq]
      exact fun e => c (adT_inj (by omega) (by omega) e)
  rw [e1, e2, e3, dec_t (adT_len a)]
  simp only [beq_self_eq_true, Bool.and_true, cond_true]
  try rfl
end Go.Proofs.YtbgfpemjdomanaaDoor
