/- Part Gv of the proof: laws used by the law of this claim. -/
import Derived.Test.YtbojofchpnfnlaaGx
import Derived.Test.YtbojofchpnfnlaaGo
import Derived.Test.YtbojofchpnfnlaaGi
import Derived.Test.YtbojofchpnfnlaaGt
set_option linter.all false
namespace Go.Proofs.Ytbojofchpnfnlaa
open Go Go.Am Go.RowKit Go.Mix Go.Bas
set_option maxRecDepth 100000
end Go.Proofs.Ytbojofchpnfnlaa

namespace Go.Proofs.Ytbojofchpnfnlaa
open Go Go.Am Go.RowKit Go.Mix Go.Bas
set_option maxRecDepth 100000
structure MdF (x y s d : List UInt8) (kk : Int) : Prop where
  e1 : pqE1 x = 0
  rt : pqRt x = false
  k : luK (pqL x) = kk
  u : pqU x = y
  f : pqF x = d
  s : gS x = s
  l : x.length = 40 + y.length
theorem md_back {s d u : List UInt8} {k : Int} (hk : k = 6 ∨ k = 58) (hu : u.length ≤ 1460) (hs : s.length = 16) (hd : d.length = 16) : MdF (hdX 0 0 u.length k 64 s d ++ u) u s d k := by
  have f := hd_back (c := 0) (la := 0) (ln := u.length) (nx := k) (hp := 64) ⟨by omega, by omega, by omega, by omega, by omega⟩ hs hd u
  generalize hdX 0 0 u.length k 64 s d ++ u = x at *
  have hl := f.l
  have w1 : wkM k 0 = 0 := by
    unfold wkM wkX
    rcases hk with rfl | rfl <;> decide
  have w2 : wkX k = false := by
    unfold wkX
    rcases hk with rfl | rfl <;> decide
  have w3 : wkR 10 x k 40 0 = (0, [pt k 40 (x.length - 40)]) := by
    rw [wkR, if_pos w1, w2]
    rfl
  have wE : wkE x (gNx x) 40 = 0 := by
    rw [f.nx]; unfold wkE; rw [if_pos ⟨by omega, by omega⟩, w3]
  have wV : pqL x = [pt k 40 (x.length - 40)] := by
    unfold pqL; rw [f.nx]; unfold wkV; rw [if_pos ⟨by omega, by omega, by rw [w3]⟩, w3]
  have hb : hrBad (pqL x) 0 = false := by rw [wV]; rfl
  have hr : pqRt x = false := by
    unfold pqRt; rw [wV]
    rcases hk with rfl | rfl <;> rfl
  have hF : pqF x = d := by unfold pqF; rw [hr, f.d]; rfl
  refine ⟨?_, hr, by rw [wV]; rfl, ?_, hF, f.s, hl⟩
  · unfold pqE1
    rw [if_neg (by omega), if_neg (by simpa using f.e), if_neg (by rw [f.ln]; omega), if_neg (by simpa using wE), if_neg (by rw [hb]; simp), if_neg (by rw [hr]; simp)]
  · unfold pqU
    rw [wV]
    exact f.q
theorem putM_no {s d : List UInt8} {kd cd wd : Int} {b : List UInt8} (h : ¬ ((0 ≤ kd ∧ kd ≤ 255) ∧ (0 ≤ cd ∧ cd ≤ 255))) : putM s d kd cd wd b = [] := by
  unfold putM
  rw [if_neg (fun hq => h ⟨octB_iff.1 hq.1, octB_iff.1 hq.2⟩)]
theorem pi_back {s d : List UInt8} {kd cd wd : Int} {body : List UInt8} (h : piE s d kd cd wd body = 0) (hs : s.length = 16) (hd : d.length = 16) (h0 : 0 ≤ wd) (h1 : wd < 4294967296) :
    pqE (piB s d kd cd wd body) = 0 ∧ (pqX (piB s d kd cd wd body)).k = 58 ∧ (pqX (piB s d kd cd wd body)).h.s = s ∧ (pqX (piB s d kd cd wd body)).fin = d ∧ ((pqX (piB s d kd cd wd body)).mk_ = kd ∧ (pqX (piB s d kd cd wd body)).mc = cd ∧ (pqX (piB s d kd cd wd body)).mw = wd ∧ (pqX (piB s d kd cd wd body)).mb = body) ∧ (piB s d kd cd wd body).length ≤ 1500 ∧ (pqX (piB s d kd cd wd body)).r = false := by
  unfold piE at h
  by_cases hz : (putM s d kd cd wd body).length = 0
  · rw [if_pos hz] at h; cases h
  rw [if_neg hz] at h
  have hl : (putM s d kd cd wd body).length ≤ 1460 := by
    unfold mdE at h
    split at h
    · cases h
    · omega
  have hv : (0 ≤ kd ∧ kd ≤ 255) ∧ (0 ≤ cd ∧ cd ≤ 255) := by
    by_cases hv : (0 ≤ kd ∧ kd ≤ 255) ∧ (0 ≤ cd ∧ cd ≤ 255)
    · exact hv
    · rw [putM_no hv] at hz; exact absurd rfl hz
  obtain ⟨v1, v2⟩ := hv
  have hB : piB s d kd cd wd body = hdX 0 0 (putM s d kd cd wd body).length 58 64 s d ++ putM s d kd cd wd body := by
    unfold piB mdB; rw [if_neg hz, if_neg (by omega)]
  have m := md_back (k := 58) (.inr rfl) hl hs hd
  rw [← hB] at m
  have hfine : both s d 58 (putM s d kd cd wd body) = 65535 := by
    unfold putM
    rw [if_pos ⟨octB_iff.2 v1, octB_iff.2 v2⟩]
    exact fine_law s d 58 (msg0 kd cd wd body) 2 (by simp [msg0, four]) rfl rfl rfl
  obtain ⟨x, y, hp⟩ := putM_cons s d kd cd wd body v1 v2
  have hI : ipE s d (putM s d kd cd wd body) = 0 := by
    unfold ipE
    rw [if_neg (by rw [hp]; simp), if_pos hfine]
  have hE : pqE (piB s d kd cd wd body) = 0 := by
    rw [pq_up m.e1, m.s, m.f, m.k, m.u]
    exact hI
  have hX := pq_ok hE
  refine ⟨hE, ?_, ?_, ?_, ⟨?_, ?_, ?_, ?_⟩, by have := m.l; omega, ?_⟩
  · rw [hX]; exact m.k
  · rw [hX]; exact m.s
  · rw [hX]; exact m.f
  · rw [hX]
    show kI (luK (pqL _)) 58 (gt (pqU _) 0) = _
    rw [m.k, m.u, hp]
    exact (gt_b8 kd).trans (by omega)
  · rw [hX]
    show kI (luK (pqL _)) 58 (gt (pqU _) 1) = _
    rw [m.k, m.u, hp]
    exact (gt_b8 cd).trans (by omega)
  · rw [hX]
    show kI (luK (pqL _)) 58 (be32 (pqU _) 4) = _
    rw [m.k, m.u, hp]
    show ((((b8 (wd / 16777216)).toNat : Int) * 256 + ((b8 (wd / 65536)).toNat : Int)) * 256 + ((b8 (wd / 256)).toNat : Int)) * 256 + ((b8 wd).toNat : Int) = wd
    rw [gt_b8, gt_b8, gt_b8, gt_b8]
    omega
  · rw [hX]
    show kL (luK (pqL _)) 58 ((pqU _).drop 8) = _
    rw [m.k, m.u, hp]
    rfl
  · rw [hX]; exact m.rt
end Go.Proofs.Ytbojofchpnfnlaa
