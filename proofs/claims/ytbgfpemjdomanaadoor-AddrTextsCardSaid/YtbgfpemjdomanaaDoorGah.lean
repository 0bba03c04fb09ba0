/- Part Gah of the proof: laws used by the law of this claim. -/
import Derived.Test.YtbgfpemjdomanaaDoorGaf
import Derived.Test.YtbgfpemjdomanaaDoorGf
set_option linter.all false
namespace Go.Proofs.YtbgfpemjdomanaaDoor
open Go Go.Am Go.RowKit Go.Mix Go.Bas
set_option maxRecDepth 100000
theorem arr_agg {f : FuncId} {vs : List V} {e : Sh} {n : Nat} {l : List V} (H : SpecV Tryd.prog f vs (.arr e n l)) : SpecV Tryd.prog f vs (.agg l) := by
  intro O w cs hO hv
  refine (H O w cs hO hv).mono ?_
  rintro e w' ⟨hb, c, he, ho⟩
  refine ⟨hb, c, he, ?_⟩
  cases ho with
  | val h =>
    cases h with
    | one h ha => cases ha
    | agg h ha =>
      cases h with
      | arr _ _ hr => exact .val (.agg (.agg hr) rfl)
def cAdWordsG : List V → Option (V × Bool)
  | [.barr 16 a] => some (.agg (wdL a), true)
  | _ => none
theorem adWordsG_con : ∀ vs v, cAdWordsG vs = some (v, true) → SpecV Tryd.prog 10 vs v := by
  intro vs v h; unfold cAdWordsG at h; split at h
  · rename_i a
    injection h with h; injection h with h hb; subst h
    exact arr_agg (adWords_con _ _ rfl)
  · cases h
theorem rAdWordsG_con : ∀ vs v, cAdWordsG vs = some (v, true) → SpecV Tryd.prog 11 vs v := by
  intro vs v h; unfold cAdWordsG at h; split at h
  · rename_i a
    injection h with h; injection h with h hb; subst h
    exact arr_agg (rAdWords_con _ _ rfl)
  · cases h
noncomputable def af_AddrTexts : AF := afOf Tryd.prog Tryd.f3 []
theorem af_AddrTexts_ok : AllOk Tryd.prog 3 af_AddrTexts := .flat Tryd.func3 (by kernel_rfl) (by kernel_rfl) (by kernel_rfl) (by kernel_rfl) (by kernel_rfl)
noncomputable def GEadtx : List (Nat × Con) := [(8, .val [.barr 16] cAdText), (9, .val [.barr 16] cAdText), (10, .val [.barr 16] cAdWordsG), (11, .val [.barr 16] cAdWordsG), (12, .val [.rows (.int .i64)] cAdOf), (13, .val [.rows (.int .i64)] cAdOf), (7, .val [] cTru)]
theorem GEadtx_ok : GOk Tryd.prog GEadtx := .cons (enters_of Tryd.func8 (by kernel_rfl) rfl) adText_con <| .cons (enters_of Tryd.func9 (by kernel_rfl) rfl) rAdText_con <| .cons (enters_of Tryd.func10 (by kernel_rfl) rfl) adWordsG_con <| .cons (enters_of Tryd.func11 (by kernel_rfl) rfl) rAdWordsG_con <| .cons (enters_of Tryd.func12 (by kernel_rfl) rfl) adOf_con <| .cons (enters_of Tryd.func13 (by kernel_rfl) rfl) rAdOf_con <| .cons (enters_of Tryd.func7 (by kernel_rfl) rfl) lives03_con <| .nil
noncomputable def IEadtx : List (Nat × AF) := []
theorem IEadtx_ok : IOk Tryd.prog IEadtx := .nil
noncomputable def CEadtx : List (Nat × (List Nat × (S → Option (Bool × Tr)))) := []
theorem CEadtx_ok : COk Tryd.prog CEadtx := .nil
noncomputable def XEadtx : List (Nat × (List Sh × (List V → PT))) := []
theorem XEadtx_ok : XOk Tryd.prog XEadtx := .nil
noncomputable def Eadtx : Env := ⟨Tryd.prog, GEadtx, IEadtx, CEadtx, XEadtx⟩
theorem Eadtx_ok : EnvOk Eadtx := ⟨by kernel_rfl, GEadtx_ok, IEadtx_ok, CEadtx_ok, XEadtx_ok⟩
def sh_AddrTexts : List Sh := [.barr 16, .rows (.int .i64)]
theorem AddrTexts_t (a : List UInt8) (l : List V) : callV Eadtx af_AddrTexts [.barr 16 a, .rows (.int .i64) l] =
 bif decide ((↑l.length : Int) > (20 : Int)) then some (V.bool true)
 else
 bif adT a == adT a then
 bif
 gt a (0 : Nat) * (256 : Int) + gt a (1 : Nat) == gt a (0 : Nat) * (256 : Int) + gt a (1 : Nat) &&
 (gt a (2 : Nat) * (256 : Int) + gt a (3 : Nat) == gt a (2 : Nat) * (256 : Int) + gt a (3 : Nat) &&
 (gt a (4 : Nat) * (256 : Int) + gt a (5 : Nat) == gt a (4 : Nat) * (256 : Int) + gt a (5 : Nat) &&
 (gt a (6 : Nat) * (256 : Int) + gt a (7 : Nat) == gt a (6 : Nat) * (256 : Int) + gt a (7 : Nat) &&
 (gt a (8 : Nat) * (256 : Int) + gt a (9 : Nat) == gt a (8 : Nat) * (256 : Int) + gt a (9 : Nat) &&
 (gt a (10 : Nat) * (256 : Int) + gt a (11 : Nat) ==
 gt a (10 : Nat) * (256 : Int) + gt a (11 : Nat) &&
 (gt a (12 : Nat) * (256 : Int) + gt a (13 : Nat) ==
 gt a (12 : Nat) * (256 : Int) + gt a (13 : Nat) &&
 (gt a (14 : Nat) * (256 : Int) + gt a (15 : Nat) ==
 gt a (14 : Nat) * (256 : Int) + gt a (15 : Nat) &&
 true))))))) then
 bif ofL l == ofL l then
 bif andT (andT true (decide (l.length ≤ (20 : Nat)))) (decide (l.length ≤ (20 : Nat))) && true then
 some (V.bool true)
 else none
 else
 bif andT (andT true (decide (l.length ≤ (20 : Nat)))) (decide (l.length ≤ (20 : Nat))) && true then
 some (V.bool false)
 else none
 else some (V.bool false)
 else some (V.bool false) := by kernel_rfl

theorem AddrTexts_v : ∀ xs, inRs 140737488351232 sh_AddrTexts xs = true → callV Eadtx af_AddrTexts xs = some (.bool true) := by
  intro xs h
  obtain ⟨zx1, zl1, rfl, zh1, zr1⟩ := inRs_cons h; clear h
  obtain ⟨a, rfl, ha⟩ := inR_barr zh1; clear zh1
  obtain ⟨zx2, zl2, rfl, zh2, zr2⟩ := inRs_cons zr1; clear zr1
  obtain ⟨l, rfl, hl, ql⟩ := inR_rows zh2; clear zh2
  obtain rfl := inRs_nil zr2; clear zr2
  rw [AddrTexts_t]
  simp only [beq_self_eq_true, Bool.and_true, cond_true]
  by_cases c : l.length ≤ 20
  · rw [dec_f (show ¬ ((l.length : Int) > 20) by omega), dec_t c]
    rfl
  · rw [dec_t (show ((l.length : Int) > 20) by omega)]
    rfl
end Go.Proofs.YtbgfpemjdomanaaDoor
