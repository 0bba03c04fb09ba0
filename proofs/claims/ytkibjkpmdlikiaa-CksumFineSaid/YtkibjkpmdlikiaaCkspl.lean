/- The plain laws of sums: a sum is the bytes' total, reduced. -/
import Derived.Test.YtkibjkpmdlikiaaCksc
namespace Go.Proofs.Ytkibjkpmdlikiaa
open Go.RowKit Go.Mix Go.Bas

def red (t : Int) : Int := if t = 0 then 0 else (t - 1) % 65535 + 1
def tot : List UInt8 → Int
  | [] => 0
  | [x] => (x.toNat : Int) * 256
  | x :: y :: r => (x.toNat : Int) * 256 + (y.toNat : Int) + tot r
theorem tot_lo : ∀ l : List UInt8, 0 ≤ tot l
  | [] => by simp [tot]
  | [x] => by simp only [tot]; omega
  | x :: y :: r => by have := tot_lo r; simp only [tot]; omega
theorem jn_red (t b : Int) (ht : 0 ≤ t) (h0 : 0 ≤ b) (h1 : b < 65536) : jn (red t) b = red (t + b) := by
  unfold jn low red
  by_cases h : t = 0
  · subst h; simp only [if_true]; by_cases hb : b = 0
    · subst hb; simp
    · rw [if_neg (by omega), if_neg (by omega)]; omega
  · rw [if_neg h]
    rw [if_neg (show ¬ t + b = 0 by omega)]
    split <;> omega
theorem red_hi (t : Int) : red t < 65536 := by unfold red; split <;> omega
theorem red_lo (t : Int) (_h : 0 ≤ t) : 0 ≤ red t := by unfold red; split <;> omega
theorem red_red (t u : Int) (ht : 0 ≤ t) (hu : 0 ≤ u) : red (t + red u) = red (t + u) := by
  unfold red
  by_cases h : u = 0
  · subst h; simp
  · rw [if_neg h, if_neg (show ¬ t + u = 0 by omega), if_neg (by omega)]; omega
theorem wsum_red : ∀ (l : List UInt8) (t : Int), 0 ≤ t → wsum (red t) l = red (t + tot l)
  | [], t, _ => by simp [wsum, tot]
  | [x], t, h => by
    have := x.toNat_lt
    simp only [wsum, tot]
    exact jn_red _ _ h (by omega) (by omega)
  | x :: y :: r, t, h => by
    have := x.toNat_lt
    have := y.toNat_lt
    simp only [wsum, tot]
    rw [jn_red _ _ h (by omega) (by omega), wsum_red r _ (by omega)]
    congr 1
    omega
theorem wsum_tot (l : List UInt8) : wsum 0 l = red (tot l) := by
  have := wsum_red l 0 (Int.le_refl _)
  simpa [red] using this
theorem tot_append : ∀ (a r : List UInt8), a.length % 2 = 0 → tot (a ++ r) = tot a + tot r
  | [], r, _ => by simp [tot]
  | [x], r, h => by simp at h
  | x :: y :: a, r, h => by
    simp only [List.cons_append, tot]
    rw [tot_append a r (by simp at h; omega)]
    omega
theorem tot_two (n : Int) (r : List UInt8) : tot (two n ++ r) = n % 65536 + tot r := by
  simp only [two, List.cons_append, List.nil_append, tot, b8_toNat]
  omega
theorem tot_split {l : List UInt8} {i : Nat} (hi : i + 2 ≤ l.length) (he : i % 2 = 0) : tot l = tot (l.take i) + (gt l i * 256 + gt l (i + 1)) + tot (l.drop (i + 2)) := by
  have e1 : l = l.take i ++ (l[i] :: l[i + 1] :: l.drop (i + 2)) := by
    conv => lhs; rw [← List.take_append_drop i l]
    congr 1
    rw [List.drop_eq_getElem_cons (by omega), List.drop_eq_getElem_cons (by omega)]
  conv => lhs; rw [e1]
  rw [tot_append _ _ (by simp; omega), gt_of_lt (by omega), gt_of_lt (by omega)]
  simp only [tot]
  omega
theorem tot_set {l : List UInt8} {i : Nat} (hi : i + 2 ≤ l.length) (he : i % 2 = 0) (n : Int) :
    tot (l.take i ++ (two n ++ l.drop (i + 2))) = tot l - (gt l i * 256 + gt l (i + 1)) + n % 65536 := by
  rw [tot_append _ _ (by simp; omega), tot_two, tot_split hi he]
  omega
theorem zeros_of_tot : ∀ (l : List UInt8), tot l = 0 → zeros l = true
  | [], _ => rfl
  | [x], h => by
    simp only [tot] at h
    have : x = 0 := UInt8.toNat_inj.1 (by simp; omega)
    subst this
    rfl
  | x :: y :: r, h => by
    have := tot_lo r
    simp only [tot] at h
    have hx : x = 0 := UInt8.toNat_inj.1 (by simp; omega)
    have hy : y = 0 := UInt8.toNat_inj.1 (by simp; omega)
    subst hx
    subst hy
    have := zeros_of_tot r (by omega)
    unfold zeros at *
    simpa using this

/-- UPDATED -/
theorem update_law (l : List UInt8) (i : Nat) (n : Int) (hi : i + 2 ≤ l.length) (he : i % 2 = 0) (hz : zeros (l.take i ++ (two n ++ l.drop (i + 2))) = false) :
    upd (nt (wsum 0 l)) (gt l i * 256 + gt l (i + 1)) n = nt (wsum 0 (l.take i ++ (two n ++ l.drop (i + 2)))) := by
  have h1 := tot_set hi he n
  have h2 : 0 < tot (l.take i ++ (two n ++ l.drop (i + 2))) := by
    have := tot_lo (l.take i ++ (two n ++ l.drop (i + 2)))
    rcases Int.lt_or_eq_of_le this with h | h
    · exact h
    · rw [zeros_of_tot _ h.symm] at hz; cases hz
  rw [wsum_tot, wsum_tot]
  generalize tot (l.take i ++ (two n ++ l.drop (i + 2))) = tx at *
  have h3 := tot_lo l
  have g0 := gt_lo l i
  have g1 := gt_hi l i
  have g2 := gt_lo l (i + 1)
  have g3 := gt_hi l (i + 1)
  have hw0 : 0 ≤ gt l i * 256 + gt l (i + 1) := by omega
  have hw1 : gt l i * 256 + gt l (i + 1) < 65536 := by omega
  have hge : gt l i * 256 + gt l (i + 1) ≤ tot l := by
    have := tot_split hi he
    have := tot_lo (l.take i)
    have := tot_lo (l.drop (i + 2))
    omega
  generalize gt l i * 256 + gt l (i + 1) = was at *
  have r0 := red_lo _ h3
  have r1 := red_hi (tot l)
  have e1 : nt (nt (red (tot l))) = red (tot l) := by unfold nt low; omega
  have e2 : nt was = 65535 - was := by unfold nt low; omega
  have e3 : jn (red (tot l + (65535 - was))) n = jn (red (tot l + (65535 - was))) (n % 65536) := by unfold jn low; simp
  unfold upd
  rw [e1, e2, jn_red _ _ h3 (by omega) (by omega), e3, jn_red _ _ (by omega) (by omega) (by omega)]
  congr 1
  unfold red
  rw [if_neg (by omega), if_neg (by omega)]
  omega

/-- FINE -/
theorem fine_law (src dst : List UInt8) (next : Int) (l : List UInt8) (i : Nat) (hi : i + 2 ≤ l.length) (he : i % 2 = 0) (hz0 : gt l i = 0) (hz1 : gt l (i + 1) = 0) :
    both src dst next (l.take i ++ (two (chk src dst next l) ++ l.drop (i + 2))) = 65535 := by
  have h1 := tot_set hi he (chk src dst next l)
  have hlen : (l.take i ++ (two (chk src dst next l) ++ l.drop (i + 2))).length = l.length := by simp [two]; omega
  unfold both
  rw [hlen]
  have hb : both src dst next l = red (tot (src ++ dst ++ four ((l.length : Int) % 4294967296) ++ [0, 0, 0, b8 next]) + tot l) := by
    unfold both pseudo
    rw [wsum_tot, wsum_tot, jn_red _ _ (tot_lo _) (red_lo _ (tot_lo _)) (red_hi _), red_red _ _ (tot_lo _) (tot_lo _)]
  unfold pseudo
  rw [wsum_tot, wsum_tot, jn_red _ _ (tot_lo _) (red_lo _ (tot_lo _)) (red_hi _), red_red _ _ (tot_lo _) (tot_lo _), h1, hz0, hz1]
  have hc : chk src dst next l = 65535 - both src dst next l := by
    unfold chk nt low
    rw [hb]
    have := red_lo (tot (src ++ dst ++ four ((l.length : Int) % 4294967296) ++ [0, 0, 0, b8 next]) + tot l) (by have := tot_lo (src ++ dst ++ four ((l.length : Int) % 4294967296) ++ [0, 0, 0, b8 next]); have := tot_lo l; omega)
    have := red_hi (tot (src ++ dst ++ four ((l.length : Int) % 4294967296) ++ [0, 0, 0, b8 next]) + tot l)
    omega
  rw [hc, hb]
  have h2 := tot_lo (src ++ dst ++ four ((l.length : Int) % 4294967296) ++ [0, 0, 0, b8 next])
  have h3 := tot_lo l
  generalize tot (src ++ dst ++ four ((l.length : Int) % 4294967296) ++ [0, 0, 0, b8 next]) = p at *
  generalize tot l = t at *
  clear h1 hb hc hlen
  unfold red
  by_cases h0 : p + t = 0
  · rw [if_pos h0]
    rw [if_neg (by omega)]
    omega
  · rw [if_neg h0]
    rw [if_neg (by omega)]
    omega
end Go.Proofs.Ytkibjkpmdlikiaa
