/- The laws of layer 9: parses, back. -/
import Derived.Test.YtmenonijbcljdaaTlvi
import Derived.Test.YtmenonijbcljdaaTlvr
namespace Go.Proofs.Ytmenonijbcljdaa
open Go.RowKit Go.Mix Go.Bas

set_option maxRecDepth 8000 in
set_option maxHeartbeats 1000000 in
theorem TlvParses_calls (A : Option Addr) (n c : Nat) (l : List UInt8) (w : World) (h : Bs w A n c l) (hsz : n ≤ 1048576) :
    Calls Try.prog 3 #[.slice A n c] w fun e w' => e = .returned (.bool true) ∧ Below w.heap.size w w' := by
  obtain ⟨r, hr⟩ : ∃ r : Int, (if (parse l).isSome = true then (0 : Int) else 3) = r := ⟨_, rfl⟩
  have HR := hid hr
  clear hr
  go_enter Try.func3, Try.ntmps3
  go_wp2_with fail
  refine (Parse_calls _ _ _ l _ h (by omega)).mono ?_; rintro e w' ⟨A1, n1, c1, rfl, ht1, hb1⟩
  rw [HR.out]
  go_wp2_with fail
  refine (rParse_calls _ _ _ l _ (h.step hb1) (by omega)).mono ?_; rintro e w' ⟨A2, n2, c2, rfl, ht2, hb2⟩
  rw [HR.out]
  have hb2' := below_next hb1 hb2
  have ht1' := ht1.step hb2
  clear hb1 hb2 ht1 h
  go_wp2_with fail
  refine (Same_calls _ _ _ _ _ _ _ _ ht1' ht2).mono ?_; rintro e w' ⟨rfl, hb3⟩
  have hb3' := below_next hb2' hb3
  clear hb2' hb3 ht1' ht2
  go_wp2_with fail
  refine (lives9_calls _).mono ?_; rintro e w' ⟨rfl, hb4⟩
  have hb4' := below_next hb3' hb4
  clear hb3' hb4
  go_wp2
  go_ret
  exact ⟨rfl, hb4'⟩

theorem put_back {L : List (Int × List UInt8)} (h : can 256 L = 0) (n m : Int) : parse (pad n ++ (put L).1 ++ pad m) = some L := by
  unfold put
  rw [if_pos h]
  exact parse_back h _ _ _
theorem pad_fill (k : Nat) : (pad ((8 - (k : Int) % 8) % 8)).length = (8 - k % 8) % 8 := by
  have h : k % 8 = 0 ∨ k % 8 = 1 ∨ k % 8 = 2 ∨ k % 8 = 3 ∨ k % 8 = 4 ∨ k % 8 = 5 ∨ k % 8 = 6 ∨ k % 8 = 7 := by omega
  have e : (k : Int) % 8 = ((k % 8 : Nat) : Int) := by omega
  rw [e]
  rcases h with h | h | h | h | h | h | h | h <;> rw [h] <;> rfl
theorem put_len {L : List (Int × List UInt8)} (h : can 256 L = 0) : (put L).1.length % 8 = 0 ∧ (put L).1.length ≤ 263 := by
  unfold put
  rw [if_pos h]
  have h1 := can_len L 256 h
  have h2 := pad_fill (enc L).length
  simp only [List.length_append]
  have e : (8 - ((enc L).length : Int) % 8) % 8 = (8 - ((enc L).length : Int) % 8) % 8 := rfl
  omega

set_option maxRecDepth 8000 in
set_option maxHeartbeats 1000000 in
theorem TlvBack_calls (A : Option Addr) (n c : Nat) (L : List (Int × List UInt8)) (k m : Int) (w : World) (h : Tls w A n c L) :
    Calls Try.prog 4 #[.slice A n c, .int .i64 k, .int .i64 m] w fun e w' => e = .returned (.bool true) ∧ Below w.heap.size w w' := by
  obtain ⟨i0, hi, hz0, hz1, hz2⟩ := info_parts Try.infob
  have hc1 := h.cap
  have hc2 := h.most
  by_cases hn : 200 < n
  · go_enter Try.func4, Try.ntmps4
    go_wp2_with fail
    refine (lives9_calls _).mono ?_; rintro e w' ⟨rfl, hb1⟩
    go_wp2
    go_ret
    exact ⟨rfl, hb1⟩
  · by_cases hz : can 256 L = 0
    · have hpl := put_len hz
      have hpb := put_back hz k m
      have hps := put_snd L
      rw [hz] at hps
      have HZ := hid hz
      have HPB := hid hpb
      have HPS := hid hps
      have HPL := hid hpl
      clear hz hpb hps hpl
      go_enter Try.func4, Try.ntmps4
      go_wp2_with fail
      refine (Can_calls _ _ _ L _ h).mono ?_; rintro e w1 ⟨rfl, hb1⟩
      rw [HZ.out]
      go_wp2_with fail
      refine (Put_calls _ _ _ L _ (h.step hb1)).mono ?_; rintro e w2 ⟨A2, n2, c2, rfl, ho2, hb2⟩
      rw [HPS.out]
      have hb2' := below_next hb1 hb2
      have HT := hid h
      have hn2 : n2 ≤ 263 := by rw [ho2.len]; exact HPL.out.2
      have hn8 : (n2 : Int) % 8 = 0 := by have := HPL.out.1; rw [← ho2.len] at this; omega
      have HN8 := hid hn8
      clear hb1 hb2 h hn8
      generalize (put L).1 = pl at *
      go_wp2_with fail
      refine (Pad_calls k _).mono ?_; rintro e w3 ⟨A3, n3, c3, rfl, ho3, hb3⟩
      have hb3' := below_next hb2' hb3
      have ho2' := ho2.step hb3
      have hn3 : n3 ≤ 257 := by rw [ho3.len]; exact pad_len _
      have hs3 := hb3.size
      have hs2 := hb2'.size
      have HB := hid hb3'
      clear ho2 hb3 hb2' hb3'
      generalize hp3 : pad k = pk at *
      have HP3 := hid hp3
      clear hp3
      go_wp2_with (at_builtin; refine stop ?_)
      refine Stop.on (wpList_app rfl _ _ 22 rfl 5 i0 Try.underlying22 hi hz0 hz1 hz2 w2.heap.size _ pl rfl rfl ho3 ho2'.bs (by omega) (by omega) ?_)
      intro A4 n4 c4 w4 ho4 hg4
      have hb4 := below_grown (B := w2.heap.size) hg4 ho3 (Nat.le_refl _) (by omega)
      have hn4 : n4 ≤ 520 := by have := ho4.len; have e2 := ho3.len; have e3 := ho2'.len; rw [List.length_append] at this; omega
      have hb4' := HB.out.trans (hb4.mono hs2)
      have hs4 := hb4.size
      clear hg4 hb4 ho3 ho2' HB
      generalize hq4 : pk ++ pl = q4 at *
      have HQ4 := hid hq4
      clear hq4
      go_wp2_with fail
      refine (Pad_calls m _).mono ?_; rintro e w5 ⟨A5, n5, c5, rfl, ho5, hb5⟩
      have hb5' := below_next hb4' hb5
      have ho4' := ho4.step hb5
      have hn5 : n5 ≤ 257 := by rw [ho5.len]; exact pad_len _
      have hs5 := hb5'.size
      have hs6 := hb5.size
      have HB := hid hb5'
      clear ho4 hb5 hb4' hb5'
      generalize hp5 : pad m = pm at *
      have HP5 := hid hp5
      clear hp5
      go_wp2_with (at_builtin; refine stop ?_)
      refine Stop.on (wpList_app rfl _ _ 22 rfl 5 i0 Try.underlying22 hi hz0 hz1 hz2 w2.heap.size _ pm rfl rfl ho4' ho5.bs (by omega) (by omega) ?_)
      intro A6 n6 c6 w6 ho6 hg6
      have hb6 := below_grown (B := w2.heap.size) hg6 ho4' (Nat.le_refl _) (by omega)
      have hn6 : n6 ≤ 1000 := by have := ho6.len; have e2 := ho4'.len; have e3 := ho5.len; rw [List.length_append] at this; omega
      have hb6' := HB.out.trans (hb6.mono hs2)
      have HPB2 : Hid (parse (q4 ++ pm) = some L) := HPB
      clear hg6 hb6 ho4' ho5 HB HPB
      generalize q4 ++ pm = q6 at *
      have hr : (if (parse q6).isSome = true then (0 : Int) else 3) = 0 := by rw [HPB2.out]; rfl
      have hg : (parse q6).getD [] = L := by rw [HPB2.out]; rfl
      have HR := hid hr
      have HG := hid hg
      clear hr hg
      go_wp2_with fail
      refine (Parse_calls _ _ _ q6 _ ho6.bs (by omega)).mono ?_; rintro e w7 ⟨A7, n7, c7, rfl, ht7, hb7⟩
      rw [HR.out]
      rw [HG.out] at ht7
      have hb7' := below_next hb6' hb7
      have hT7 := HT.out.step hb7'
      have n8 := HN8.out
      clear hb7 hb6' ho6
      go_wp2_with fail
      refine (Same_calls _ _ _ _ _ _ L _ ht7 hT7).mono ?_; rintro e w8 ⟨rfl, hb8⟩
      have hb8' := below_next hb7' hb8
      clear hb8 hb7' ht7 hT7
      go_wp2_with fail
      refine (lives9_calls _).mono ?_; rintro e w9 ⟨rfl, hb9⟩
      have hb9' := below_next hb8' hb9
      clear hb9 hb8'
      go_wp2
      go_ret
      exact ⟨rfl, hb9'⟩
    · have HZ : (can 256 L != 0) = true := by simpa using hz
      clear hz
      go_enter Try.func4, Try.ntmps4
      go_wp2_with fail
      refine (Can_calls _ _ _ L _ h).mono ?_; rintro e w' ⟨rfl, hb1⟩
      generalize can 256 L = e at *
      clear h
      go_wp2_with fail
      refine (lives9_calls _).mono ?_; rintro e w' ⟨rfl, hb2⟩
      have hb2' := below_next hb1 hb2
      go_wp2
      go_ret
      exact ⟨rfl, hb2'⟩
end Go.Proofs.Ytmenonijbcljdaa
