/- PacketParses: for every input the law returns true, and what came in reads as before. No condition of its own. -/
import Derived.Test.YtbojofchpnfnlaaGreatGv
import Derived.Test.YtbojofchpnfnlaaGreatGf
import Derived.Test.YtbojofchpnfnlaaGreatGd
set_option linter.all false
namespace Go.Proofs.YtbojofchpnfnlaaGreat
open Go Go.Am Go.RowKit Go.Mix Go.Bas
set_option maxRecDepth 100000
noncomputable def af_pkRef : AF := afOf Tryz.prog Tryz.f12 []
theorem af_pkRef_ok : AllOk Tryz.prog 12 af_pkRef := .flat Tryz.func12 (by kernel_rfl) (by kernel_rfl) (by kernel_rfl) (by kernel_rfl) (by kernel_rfl)
noncomputable def af_pkSame : AF := afOf Tryz.prog Tryz.f11 []
theorem af_pkSame_ok : AllOk Tryz.prog 11 af_pkSame := .flat Tryz.func11 (by kernel_rfl) (by kernel_rfl) (by kernel_rfl) (by kernel_rfl) (by kernel_rfl)
noncomputable def GEpkm : List (Nat × Con) := [(31, .val [.agg [.int .i64, .int .i64, .int .i64, .int .i64, .rows (.barr 16), .rows (.agg [.int .i64, .bytes])], .agg [.int .i64, .int .i64, .int .i64, .int .i64, .rows (.barr 16), .rows (.agg [.int .i64, .bytes])]] cSrhSame), (32, .val [.agg [.int .i64, .int .i64, .int .u32, .int .u32, .int .i64, .int .i64, .int .i64, .int .i64, .rows (.agg [.int .i64, .bytes]), .bytes], .agg [.int .i64, .int .i64, .int .u32, .int .u32, .int .i64, .int .i64, .int .i64, .int .i64, .rows (.agg [.int .i64, .bytes]), .bytes]] crTcSame), (33, .val [.agg [.int .i64, .int .i64, .int .u32, .bytes], .agg [.int .i64, .int .i64, .int .u32, .bytes]] cISame)]
theorem GEpkm_ok : GOk Tryz.prog GEpkm := .cons (enters_of Tryz.func31 (by kernel_rfl) rfl) srhSame_con <| .cons (enters_of Tryz.func32 (by kernel_rfl) rfl) rTcSame_con <| .cons (enters_of Tryz.func33 (by kernel_rfl) rfl) ISame_con <| .nil
noncomputable def IEpkm : List (Nat × AF) := []
theorem IEpkm_ok : IOk Tryz.prog IEpkm := .nil
noncomputable def CEpkm : List (Nat × (List Nat × (S → Option (Bool × Tr)))) := []
theorem CEpkm_ok : COk Tryz.prog CEpkm := .nil
noncomputable def XEpkm : List (Nat × (List Sh × (List V → PT))) := []
theorem XEpkm_ok : XOk Tryz.prog XEpkm := .nil
noncomputable def Epkm : Env := ⟨Tryz.prog, GEpkm, IEpkm, CEpkm, XEpkm⟩
theorem Epkm_ok : EnvOk Epkm := ⟨by kernel_rfl, GEpkm_ok, IEpkm_ok, CEpkm_ok, XEpkm_ok⟩
theorem pkRef_v (p : Pq) : callV Epkm af_pkRef [pqV p] = some (pqV p) := by kernel_rfl
theorem pkSame_t (p : Pq) : callV Epkm af_pkSame [pqV p, pqV p] =
 bif
 p.h.1 == p.h.1 &&
 (p.h.2 == p.h.2 &&
 (p.h.3 == p.h.3 && (p.h.4 == p.h.4 && (p.h.5 == p.h.5 && (p.h.6 == p.h.6 && (p.h.7 == p.h.7 && true)))))) then
 bif p.2 == p.2 then
 bif p.9 == p.9 then
 bif p.10 == p.10 then
 bif smB p.12 p.13 p.14 p.15 p.12 p.13 p.14 p.15 then
 bif
 andT
 (andT true
 (eqVh { nx := p.3, lf := p.4, fl := p.5, tg := p.6, s := p.7, t := p.8 }
 { nx := p.3, lf := p.4, fl := p.5, tg := p.6, s := p.7, t := p.8 } &&
 decide (p.7.length ≤ (4611686018427387904 : Nat) ∧ p.8.length ≤ (4611686018427387904 : Nat))))
 (eqTc
 { sp := p.t.1, dp := p.t.2, sq := p.t.3, ak := p.t.4, fl := p.t.5, wn := p.t.6, sm := p.t.7, ug := p.t.8, op := p.t.9, pl := p.t.10 }
 { sp := p.t.1, dp := p.t.2, sq := p.t.3, ak := p.t.4, fl := p.t.5, wn := p.t.6, sm := p.t.7, ug := p.t.8, op := p.t.9, pl := p.t.10 } &&
 decide (p.t.9.length ≤ (4611686018427387904 : Nat))) then
 some (V.bool (p.16 == p.16))
 else none
 else
 bif
 andT
 (andT true
 (eqVh { nx := p.3, lf := p.4, fl := p.5, tg := p.6, s := p.7, t := p.8 }
 { nx := p.3, lf := p.4, fl := p.5, tg := p.6, s := p.7, t := p.8 } &&
 decide (p.7.length ≤ (4611686018427387904 : Nat) ∧ p.8.length ≤ (4611686018427387904 : Nat))))
 (eqTc
 { sp := p.t.1, dp := p.t.2, sq := p.t.3, ak := p.t.4, fl := p.t.5, wn := p.t.6, sm := p.t.7, ug := p.t.8, op := p.t.9, pl := p.t.10 }
 { sp := p.t.1, dp := p.t.2, sq := p.t.3, ak := p.t.4, fl := p.t.5, wn := p.t.6, sm := p.t.7, ug := p.t.8, op := p.t.9, pl := p.t.10 } &&
 decide (p.t.9.length ≤ (4611686018427387904 : Nat))) then
 some (V.bool false)
 else none
 else some (V.bool false)
 else some (V.bool false)
 else some (V.bool false)
 else some (V.bool false) := by kernel_rfl

theorem pkSame_v (p : Pq) (h1 : p.ss.length ≤ 4611686018427387904) (h2 : p.sp.length ≤ 4611686018427387904) (h3 : p.t.op.length ≤ 4611686018427387904) : callV Epkm af_pkSame [pqV p, pqV p] = some (.bool true) := by
  rw [pkSame_t]
  have e1 : ∀ x : Hd, eqVh x x = true := fun x => eqVh_iff.2 rfl
  have e2 : ∀ x : Tc, eqTc x x = true := fun x => eqTc_iff.2 rfl
  simp only [beq_self_eq_true, e1, e2, smB_refl, Bool.and_self]
  simp (disch := omega) only [dec_t, dec_f, inB_t, inC_t, andT_t, cond_true, cond_false, Bool.and_true, Bool.true_and, w64, wu32, wu8, nble_t, nblt_t, Bool.not_true, Bool.not_false, Bool.not_not, ieq_t, ieq_f, ine_t, ine_f, true_and, and_true, andT_l]
def pqOf (v : V) : Pq := ⟨h6Of (aG v 0), toB (aG v 1), toI (aG (aG v 2) 0), toI (aG (aG v 2) 1), toI (aG (aG v 2) 2), toI (aG (aG v 2) 3), toR (aG (aG v 2) 4), toR (aG (aG v 2) 5), toA (aG v 3), toI (aG v 4),
  ⟨toI (aG (aG v 5) 0), toI (aG (aG v 5) 1), toI (aG (aG v 5) 2), toI (aG (aG v 5) 3), toI (aG (aG v 5) 4), toI (aG (aG v 5) 5), toI (aG (aG v 5) 6), toI (aG (aG v 5) 7), toR (aG (aG v 5) 8), toL (aG (aG v 5) 9)⟩,
  toI (aG (aG v 6) 0), toI (aG (aG v 6) 1), toI (aG (aG v 6) 2), toL (aG (aG v 6) 3), toL (aG v 7)⟩
noncomputable def cPkRef : List V → Option (V × Bool)
  | [v] => some (pqV (pqOf v), okG (v = pqV (pqOf v)))
  | _ => none
theorem pkRef_con : ∀ vs v, cPkRef vs = some (v, true) → SpecV Tryz.prog 12 vs v := by
  intro vs v h
  unfold cPkRef at h
  split at h
  · rename_i x
    injection h with h; injection h with h hb; subst h
    have e := okG_p hb
    have e2 := callV_ok Epkm_ok af_pkRef_ok (pkRef_v (pqOf x))
    rw [← e] at e2 ⊢
    exact e2
  · cases h
noncomputable def cPkSame : List V → Option (V × Bool)
  | [v, w] => some (.bool true, okG (v = w ∧ v = pqV (pqOf v) ∧ (pqOf v).ss.length ≤ 4611686018427387904 ∧ (pqOf v).sp.length ≤ 4611686018427387904 ∧ (pqOf v).t.op.length ≤ 4611686018427387904))
  | _ => none
theorem pkSame_con : ∀ vs v, cPkSame vs = some (v, true) → SpecV Tryz.prog 11 vs v := by
  intro vs v h
  unfold cPkSame at h
  split at h
  · rename_i x y
    injection h with h; injection h with h hb; subst h
    obtain ⟨e1, e, h3, h4, h5⟩ := okG_p hb
    subst e1
    have e2 := callV_ok Epkm_ok af_pkSame_ok (pkSame_v (pqOf x) h3 h4 h5)
    rw [← e] at e2
    exact e2
  · cases h
noncomputable def af_PacketParses : AF := afOf Tryz.prog Tryz.f4 []
theorem af_PacketParses_ok : AllOk Tryz.prog 4 af_PacketParses := .flat Tryz.func4 (by kernel_rfl) (by kernel_rfl) (by kernel_rfl) (by kernel_rfl) (by kernel_rfl)
noncomputable def GEpkn : List (Nat × Con) := [(15, .val [] cTrue13), (9, .val [.bytes] cPkParse), (10, .val [.bytes] cPkParse), (13, .val [.int .i64] cReason), (14, .val [.int .i64] cReason), (12, .val [.agg [.agg [.int .i64, .int .i64, .int .i64, .int .i64, .int .i64, .barr 16, .barr 16], .bool, .agg [.int .i64, .int .i64, .int .i64, .int .i64, .rows (.barr 16), .rows (.agg [.int .i64, .bytes])], .barr 16, .int .i64, .agg [.int .i64, .int .i64, .int .u32, .int .u32, .int .i64, .int .i64, .int .i64, .int .i64, .rows (.agg [.int .i64, .bytes]), .bytes], .agg [.int .i64, .int .i64, .int .u32, .bytes], .bytes]] cPkRef), (11, .val [.agg [.agg [.int .i64, .int .i64, .int .i64, .int .i64, .int .i64, .barr 16, .barr 16], .bool, .agg [.int .i64, .int .i64, .int .i64, .int .i64, .rows (.barr 16), .rows (.agg [.int .i64, .bytes])], .barr 16, .int .i64, .agg [.int .i64, .int .i64, .int .u32, .int .u32, .int .i64, .int .i64, .int .i64, .int .i64, .rows (.agg [.int .i64, .bytes]), .bytes], .agg [.int .i64, .int .i64, .int .u32, .bytes], .bytes], .agg [.agg [.int .i64, .int .i64, .int .i64, .int .i64, .int .i64, .barr 16, .barr 16], .bool, .agg [.int .i64, .int .i64, .int .i64, .int .i64, .rows (.barr 16), .rows (.agg [.int .i64, .bytes])], .barr 16, .int .i64, .agg [.int .i64, .int .i64, .int .u32, .int .u32, .int .i64, .int .i64, .int .i64, .int .i64, .rows (.agg [.int .i64, .bytes]), .bytes], .agg [.int .i64, .int .i64, .int .u32, .bytes], .bytes]] cPkSame)]
theorem GEpkn_ok : GOk Tryz.prog GEpkn := .cons (enters_of Tryz.func15 (by kernel_rfl) rfl) lives13_con <| .cons (enters_of Tryz.func9 (by kernel_rfl) rfl) pkParse_con <| .cons (enters_of Tryz.func10 (by kernel_rfl) rfl) rPkParse_con <| .cons (enters_of Tryz.func13 (by kernel_rfl) rfl) pkReason_con <| .cons (enters_of Tryz.func14 (by kernel_rfl) rfl) rPkReason_con <| .cons (enters_of Tryz.func12 (by kernel_rfl) rfl) pkRef_con <| .cons (enters_of Tryz.func11 (by kernel_rfl) rfl) pkSame_con <| .nil
noncomputable def IEpkn : List (Nat × AF) := []
theorem IEpkn_ok : IOk Tryz.prog IEpkn := .nil
noncomputable def CEpkn : List (Nat × (List Nat × (S → Option (Bool × Tr)))) := []
theorem CEpkn_ok : COk Tryz.prog CEpkn := .nil
noncomputable def XEpkn : List (Nat × (List Sh × (List V → PT))) := []
theorem XEpkn_ok : XOk Tryz.prog XEpkn := .nil
noncomputable def Epkn : Env := ⟨Tryz.prog, GEpkn, IEpkn, CEpkn, XEpkn⟩
theorem Epkn_ok : EnvOk Epkn := ⟨by kernel_rfl, GEpkn_ok, IEpkn_ok, CEpkn_ok, XEpkn_ok⟩
def sh_PacketParses : List Sh := [.bytes]
theorem PacketParses_t (b : List UInt8) : callV Epkn af_PacketParses [.bytes b] =
 bif pqE b == pqE b then
 bif rsN (pqE b) == rsN (pqE b) then
 bif
 andT
 (andT true
 (okG
 (pqV
 { h := (pqX b).h, r := (pqX b).2, sn := (pqX b).3, sl := (pqX b).4, sf := (pqX b).5, sg := (pqX b).6, ss := (pqX b).7, sp := (pqX b).8, fin := (pqX b).9, k := (pqX b).10, t := (pqX b).t, mk_ := (pqX b).12, mc := (pqX b).13, mw := (pqX b).14, mb := (pqX b).15, body := (pqX b).16 } =
 pqV
 { h := (pqX b).h, r := (pqX b).2, sn := (pqX b).3, sl := (pqX b).4, sf := (pqX b).5, sg := (pqX b).6, ss := (pqX b).7, sp := (pqX b).8, fin := (pqX b).9, k := (pqX b).10, t := (pqX b).t, mk_ := (pqX b).12, mc := (pqX b).13, mw := (pqX b).14, mb := (pqX b).15, body := (pqX b).16 })))
 (okG
 (pqV
 { h := (pqX b).h, r := (pqX b).2, sn := (pqX b).3, sl := (pqX b).4, sf := (pqX b).5, sg := (pqX b).6, ss := (pqX b).7, sp := (pqX b).8, fin := (pqX b).9, k := (pqX b).10, t := (pqX b).t, mk_ := (pqX b).12, mc := (pqX b).13, mw := (pqX b).14, mb := (pqX b).15, body := (pqX b).16 } =
 pqV
 { h := (pqX b).h, r := (pqX b).2, sn := (pqX b).3, sl := (pqX b).4, sf := (pqX b).5, sg := (pqX b).6, ss := (pqX b).7, sp := (pqX b).8, fin := (pqX b).9, k := (pqX b).10, t := (pqX b).t, mk_ := (pqX b).12, mc := (pqX b).13, mw := (pqX b).14, mb := (pqX b).15, body := (pqX b).16 } ∧
 pqV
 { h := (pqX b).h, r := (pqX b).2, sn := (pqX b).3, sl := (pqX b).4, sf := (pqX b).5, sg := (pqX b).6, ss := (pqX b).7, sp := (pqX b).8, fin := (pqX b).9, k := (pqX b).10, t := (pqX b).t, mk_ := (pqX b).12, mc := (pqX b).13, mw := (pqX b).14, mb := (pqX b).15, body := (pqX b).16 } =
 pqV
 { h := (pqX b).h, r := (pqX b).2, sn := (pqX b).3, sl := (pqX b).4, sf := (pqX b).5, sg := (pqX b).6, ss := (pqX b).7, sp := (pqX b).8, fin := (pqX b).9, k := (pqX b).10, t := (pqX b).t, mk_ := (pqX b).12, mc := (pqX b).13, mw := (pqX b).14, mb := (pqX b).15, body := (pqX b).16 } ∧
 (pqX b).7.length ≤ (4611686018427387904 : Nat) ∧
 (pqX b).8.length ≤ (4611686018427387904 : Nat) ∧
 (pqX b).t.9.length ≤ (4611686018427387904 : Nat))) &&
 true then
 some (V.bool true)
 else none
 else
 bif
 andT
 (andT true
 (okG
 (pqV
 { h := (pqX b).h, r := (pqX b).2, sn := (pqX b).3, sl := (pqX b).4, sf := (pqX b).5, sg := (pqX b).6, ss := (pqX b).7, sp := (pqX b).8, fin := (pqX b).9, k := (pqX b).10, t := (pqX b).t, mk_ := (pqX b).12, mc := (pqX b).13, mw := (pqX b).14, mb := (pqX b).15, body := (pqX b).16 } =
 pqV
 { h := (pqX b).h, r := (pqX b).2, sn := (pqX b).3, sl := (pqX b).4, sf := (pqX b).5, sg := (pqX b).6, ss := (pqX b).7, sp := (pqX b).8, fin := (pqX b).9, k := (pqX b).10, t := (pqX b).t, mk_ := (pqX b).12, mc := (pqX b).13, mw := (pqX b).14, mb := (pqX b).15, body := (pqX b).16 })))
 (okG
 (pqV
 { h := (pqX b).h, r := (pqX b).2, sn := (pqX b).3, sl := (pqX b).4, sf := (pqX b).5, sg := (pqX b).6, ss := (pqX b).7, sp := (pqX b).8, fin := (pqX b).9, k := (pqX b).10, t := (pqX b).t, mk_ := (pqX b).12, mc := (pqX b).13, mw := (pqX b).14, mb := (pqX b).15, body := (pqX b).16 } =
 pqV
 { h := (pqX b).h, r := (pqX b).2, sn := (pqX b).3, sl := (pqX b).4, sf := (pqX b).5, sg := (pqX b).6, ss := (pqX b).7, sp := (pqX b).8, fin := (pqX b).9, k := (pqX b).10, t := (pqX b).t, mk_ := (pqX b).12, mc := (pqX b).13, mw := (pqX b).14, mb := (pqX b).15, body := (pqX b).16 } ∧
 pqV
 { h := (pqX b).h, r := (pqX b).2, sn := (pqX b).3, sl := (pqX b).4, sf := (pqX b).5, sg := (pqX b).6, ss := (pqX b).7, sp := (pqX b).8, fin := (pqX b).9, k := (pqX b).10, t := (pqX b).t, mk_ := (pqX b).12, mc := (pqX b).13, mw := (pqX b).14, mb := (pqX b).15, body := (pqX b).16 } =
 pqV
 { h := (pqX b).h, r := (pqX b).2, sn := (pqX b).3, sl := (pqX b).4, sf := (pqX b).5, sg := (pqX b).6, ss := (pqX b).7, sp := (pqX b).8, fin := (pqX b).9, k := (pqX b).10, t := (pqX b).t, mk_ := (pqX b).12, mc := (pqX b).13, mw := (pqX b).14, mb := (pqX b).15, body := (pqX b).16 } ∧
 (pqX b).7.length ≤ (4611686018427387904 : Nat) ∧
 (pqX b).8.length ≤ (4611686018427387904 : Nat) ∧
 (pqX b).t.9.length ≤ (4611686018427387904 : Nat))) &&
 true then
 some (V.bool false)
 else none
 else some (V.bool false) := by kernel_rfl

theorem pq_lens (b : List UInt8) (h : b.length ≤ 140737488351232) : (pqX b).ss.length ≤ 4611686018427387904 ∧ (pqX b).sp.length ≤ 4611686018427387904 ∧ (pqX b).t.op.length ≤ 4611686018427387904 := by
  unfold pqX
  split
  · refine ⟨?_, ?_, ?_⟩
    · show (rV _ (sS (pqTl b))).length ≤ _
      have h1 := zV_len (shE (pqTl b)) (sgL (pqTl b) (shN (pqTl b)))
      have h2 := shN_hi (pqTl b)
      rw [sgL_len] at h1
      unfold rV sS
      split
      · omega
      · exact Nat.zero_le _
    · show (rV _ (sP (pqTl b))).length ≤ _
      have h1 := zV_len (shE (pqTl b)) (paV (parse (shT (pqTl b))))
      have h2 := paV_len (shT (pqTl b))
      have h3 := shT_len (pqTl b)
      unfold rV sP
      split
      · omega
      · exact Nat.zero_le _
    · show (kT _ (tpXX (pqU b))).op.length ≤ _
      have h1 := tpX_op (pqU b)
      have h2 : (pqU b).length ≤ b.length := by unfold pqU; rw [List.length_drop]; omega
      unfold kT
      split
      · omega
      · exact Nat.zero_le _
  · exact ⟨Nat.zero_le _, Nat.zero_le _, Nat.zero_le _⟩
theorem PacketParses_v : ∀ xs, inRs 140737488351232 sh_PacketParses xs = true → callV Epkn af_PacketParses xs = some (.bool true) := by
  intro xs h
  obtain ⟨zx1, zl1, rfl, zh1, zr1⟩ := inRs_cons h; clear h
  obtain ⟨b, rfl, hb⟩ := inR_bytes zh1; clear zh1
  obtain rfl := inRs_nil zr1; clear zr1
  rw [PacketParses_t]
  obtain ⟨l1, l2, l3⟩ := pq_lens b hb
  simp only [beq_self_eq_true]
  simp (disch := omega) only [okG_t, andT_t, cond_true, Bool.and_true, true_and, and_true]
  rw [okG_t trivial]
  rfl
end Go.Proofs.YtbojofchpnfnlaaGreat

namespace Go.Proofs.YtbojofchpnfnlaaGreat.packetParses
open Go Go.ChangeShapes Go.WideShapes Go.ChangeAt Go.RowKit Go.Bas Go.Am

theorem own : ownKnob Tryz.prog.godebug = none := by kernel_rfl
theorem laidOut : laidOutB Tryz.prog = true := by kernel_rfl
set_option maxRecDepth 100000 in
set_option maxHeartbeats 4000000 in
theorem closed : joinedFacts Tryz.checked.prog 4 Tryz.f4 Rows.packetParsesSpec Rows.packetParsesRow = true := by
  unfold joinedFacts
  rw [fMay, fLift, fMake]
  refine (andB (andB (andB (andB (andB (andB (andB (andB (andB (andB (andB (andB (andB (andB (andB (andB (andB (andB (andB (andB (andB (andB (andB (andB (andB (andB (andB (andB (andB (andB ?_ ?_) ?_) ?_) ?_) ?_) ?_) ?_) ?_) ?_) ?_) ?_) ?_) ?_) ?_) ?_) ?_) ?_) ?_) ?_) ?_) ?_) ?_) ?_) ?_) ?_) ?_) ?_) ?_) ?_) ?_)
  all_goals as_aux_lemma => kernel_rfl
set_option maxRecDepth 100000 in
set_option maxHeartbeats 1000000 in
theorem lifted (os : Os) (started : os.Started) (H : Type) (enc : TypeId × Value → H) :
    ReturnsInHanded {} Tryz.checked os 4 .any (Rows.packetParsesSpec.pre6 enc Tryz.prog Tryz.f4 Rows.packetParsesRow.domain false) (Rows.packetParsesSpec.post enc Tryz.prog Tryz.f4 false true false false) := by
  refine returnsInHanded_of_change_sized (C := Tryz.checked) own started (by kernel_rfl) Tryz.func4
    (ChangeSpec.witness6 (enc := enc) (C := Tryz.checked) false ⟨#[], (Tryz.f4.params.map (zArg Tryz.prog 8)), []⟩ 8 (by kernel_rfl) (by kernel_rfl) (by kernel_rfl) (by kernel_rfl)) ?_
  intro W base args ds gs before hval0 hW hcnd hsz0 _
  have hval : ∀ (j : Nat) t v, Tryz.f4.params[j]? = some t → args[j]? = some v → Value.okWide Tryz.prog W .any base t v := hval0
  have hsz : (DataW.weightsEach Tryz.prog (Tryz.f4.params.toList ++ Rows.packetParsesSpec.plain.varTypes Tryz.prog) (ds ++ gs)).all (· ≤ reachBytes) = true := hsz0
  clear hsz0
  have hW' := hW
  obtain ⟨p, q, hA0, hV, rfl, hfz, hnd⟩ := hW
  have hA : DataW.TrodAll enc Tryz.prog W 0 (fun _ => true) true Tryz.f4.params.toList args.toList ds p := hA0
  obtain ⟨rfl, rfl⟩ := trodVars_none hV
  have hc := law_calls (E := Epkn) Epkn_ok af_PacketParses_ok (D := 8) (shs := sh_PacketParses) 140737488351232 hA (fun j t v h1 h2 => hval j t v (by simpa using h1) (by simpa using h2)) (by kernel_rfl) (by kernel_rfl) (weights_of rfl hsz) PacketParses_v
  rw [Array.toArray_toList] at hc
  refine hc.mono fun e W' ⟨he, hb⟩ => ?_
  subst he
  exact ⟨_, rfl, law_post laidOut (par_of (by kernel_rfl)) rfl rfl Tryz.underlying4 (by have hl := trodAll_len hA; clear hc; match ds, hl with | [_], _ => rfl) hW' hb⟩
set_option maxRecDepth 100000 in
theorem proved : Rows.PacketParsesSaid :=
  OpenClaim.holds_of_wide 4 Tryz.f4 rfl rfl rfl rfl rfl rfl rfl ⟨rfl, rfl, rfl, rfl, rfl⟩ rfl rfl rfl rfl rfl (by as_aux_lemma => kernel_rfl) Tryz.func4 closed
    (of_decide_eq_true (by kernel_rfl)) (by unfold Func.isWrapper; first | (rw [if_pos (by decide +kernel)]; kernel_rfl) | (rw [if_neg (by decide +kernel)]; exact ⟨rfl, rfl⟩))
    (fun os started H enc _ => lifted os started H enc)
end Go.Proofs.YtbojofchpnfnlaaGreat.packetParses
