/- Part Gv of the proof: laws used by the law of this claim. -/
import Derived.Test.YtfhljcbbgckdiaaGreatGx
import Derived.Test.YtfhljcbbgckdiaaGreatGo
import Derived.Test.YtfhljcbbgckdiaaGreatGi
import Derived.Test.YtfhljcbbgckdiaaGreatGt
set_option linter.all false
namespace Go.Proofs.YtfhljcbbgckdiaaGreat
open Go Go.Am Go.RowKit Go.Mix Go.Bas
set_option maxRecDepth 100000
structure MdF (x y s d : List UInt8) (kk : Int) : Prop where
 e1 : pqE1 x = 0
 rt : pqRt x = false
 k : luK (pqL x) = kk
 u : pqU x = y
 f : pqF x = d
 s : gS x = s
 l : x.length = 40 + y.length
theorem md_back {s d u : List UInt8} {k : Int} (hk : k = 6 ∨ k = 58) (hu : u.length ≤ 1460) (hs : s.length = 16) (hd : d.length = 16) : MdF (hdX 0 0 u.length k 64 s d ++ u) u s d k := by
 have f := hd_back (c := 0) (la := 0) (ln := u.length) (nx := k) (hp := 64) ⟨by omega, by omega, by omega, by omega, by omega⟩ hs hd u
 generalize hdX 0 0 u.length k 64 s d ++ u = x at *
 have hl := f.l
 have w1 : wkM k 0 = 0 := by
  unfold wkM wkX
  rcases hk with rfl | rfl <;> decide
 have w2 : wkX k = false := by
  unfold wkX
  rcases hk with rfl | rfl <;> decide
 have w3 : wkR 10 x k 40 0 = (0, [pt k 40 (x.length - 40)]) := by
  rw [wkR, if_pos w1, w2]
  rfl
 have wE : wkE x (gNx x) 40 = 0 := by
  rw [f.nx]; unfold wkE; rw [if_pos ⟨by omega, by omega⟩, w3]
 have wV : pqL x = [pt k 40 (x.length - 40)] := by
  unfold pqL; rw [f.nx]; unfold wkV; rw [if_pos ⟨by omega, by omega, by rw [w3]⟩, w3]
 have hb : hrBad (pqL x) 0 = false := by rw [wV]; rfl
 have hr : pqRt x = false := by
  unfold pqRt; rw [wV]
  rcases hk with rfl | rfl <;> rfl
 have hF : pqF x = d := by unfold pqF; rw [hr, f.d]; rfl
 refine ⟨?_, hr, by rw [wV]; rfl, ?_, hF, f.s, hl⟩
 ·unfold pqE1
  rw [if_neg (by omega), if_neg (by simpa using f.e), if_neg (by rw [f.ln]; omega), if_neg (by simpa using wE), if_neg (by rw [hb]; simp), if_neg (by rw [hr]; simp)]
 ·unfold pqU
  rw [wV]
  exact f.q
theorem pk_back {s d : List UInt8} {t : Tc} (h : pkE s d t = 0) (hs : s.length = 16) (hd : d.length = 16) (hq : u32ok t.sq) (ha : u32ok t.ak) (ho : (tls t.op).map tlV = t.op) :
  tcEr t = 0 ∧ pqE (pkB s d t) = 0 ∧ (pqX (pkB s d t)).k = 6 ∧ (pqX (pkB s d t)).h.s = s ∧ (pqX (pkB s d t)).fin = d ∧ (pqX (pkB s d t)).t = tcS s d t ∧ (pkB s d t).length ≤ 1500 ∧ (pqX (pkB s d t)).r = false := by
 obtain ⟨f1, f2, f3⟩ := tcS_keep s d t
 unfold pkE at h
 have h1 : tcEr (tcS s d t) = 0 := by
  by_cases h1 : tcEr (tcS s d t) = 0
  ·exact h1
  ·rw [if_neg h1] at h; exact absurd h h1
 rw [if_pos h1] at h
 have hl : (tcP (tcS s d t)).length ≤ 1460 := by
  unfold mdE at h
  split at h
  ·cases h
  ·omega
 have h0 : tcEr t = 0 := by
  by_cases h0 : tcEr t = 0
  ·exact h0
  ·have e : tcS s d t = t := by unfold tcS; rw [if_neg h0]
   rwa [e] at h1
 have hB : pkB s d t = hdX 0 0 (tcP (tcS s d t)).length 6 64 s d ++ tcP (tcS s d t) := by
  unfold pkB mdB; rw [if_pos h1, if_neg (by omega)]
 have m := md_back (k := 6) (.inl rfl) hl hs hd
 rw [← hB] at m
 obtain ⟨b1, b2⟩ := tpX_back h1 (by rw [f2]; exact hq) (by rw [f3]; exact ha) (by rw [f1]; exact ho)
 have g := (tcS_fine (s := s) (d := d) h0).1
 have hE : pqE (pkB s d t) = 0 := by
  rw [pq_up m.e1, m.s, m.f, m.k, m.u]
  unfold upE
  rw [if_pos rfl, if_neg (by simpa using b1), if_pos g]
 have hX := pq_ok hE
 refine ⟨h0, hE, ?_, ?_, ?_, ?_, by have := m.l; omega, ?_⟩
 ·rw [hX]; exact m.k
 ·rw [hX]; exact m.s
 ·rw [hX]; exact m.f
 ·rw [hX]
  show kT (luK (pqL _)) (tpXX (pqU _)) = _
  rw [m.k, m.u, b2]
  rfl
 ·rw [hX]; exact m.rt
end Go.Proofs.YtfhljcbbgckdiaaGreat