/- The laws of layer 4: changes. -/
import Derived.Test.YtmenonijbcljdaaSixj
namespace Go.Proofs.Ytmenonijbcljdaa
open Go.RowKit Go.Mix Go.Bas

theorem run_str {w : World} {A : Option Addr} {n c : Nat} {l : List UInt8} (h : Bs w A n c l) : (convert 22 9 (.slice A n c)).run Try.prog w = .ok (str l) w :=
  run_string (P := Try.prog) 22 5 9 Try.underlying22 Try.underlying5 Try.underlying9 h

set_option maxRecDepth 8000 in
set_option maxHeartbeats 2000000 in
theorem SixChanges_calls (A : Option Addr) (k cp : Nat) (l d : List UInt8) (w : World) (h : Bs w A k cp l) (hsz : k ≤ 140737488351232) (hdl : d.length = 16) :
    Calls Try.prog 8 #[.slice A k cp, .agg (d.map bv).toArray] w fun e w' => e = .returned (.bool true) ∧ Below w.heap.size w w' := by
  have hcp := h.cap
  have hb0 := Blk.new w 36 (d.map bv)
  have HI1 : Hid ((Try.prog.info? 36).map (·.size) = some (d.map bv).length) := hid (by rw [List.length_map, hdl]; kernel_rfl)
  have hs0 := run_str (h.alloc (.cells (d.map bv).toArray 36))
  have HB0 := hid hb0
  have HBL := hid ((Below.refl w.heap.size w).alloc (Nat.le_refl _) (.cells (d.map bv).toArray 36))
  have HH := hid h
  have HDL := hid hdl
  clear h hb0 hdl
  go_enter Try.func8, Try.ntmps8
  go_wp2_with fail
  refine (Nearer_calls _ _ _ l _ (HH.out.alloc _) hsz).mono ?_; rintro e w1 ⟨A1, n1, c1, rfl, ho1, hb1⟩
  have HB1 := hid (HB0.out.step hb1)
  have HW1 := hid (below_next HBL.out hb1)
  have HO1 := hid ho1.bs
  clear hb1 ho1 hs0 HB0 HBL
  go_wp2_with fail
  refine (rNearer_calls _ _ _ l _ (HH.out.step HW1.out) hsz).mono ?_; rintro e w2 ⟨A2, n2, c2, rfl, ho2, hb2⟩
  have HB2 := hid (HB1.out.step hb2)
  have HW2 := hid (below_next HW1.out hb2)
  have HO1' := hid (HO1.out.step hb2)
  have HO2 := hid ho2.bs
  have HLD := hid (HB2.out.ld_all (P := Try.prog) Try.underlying36 rfl HI1.out)
  clear hb2 ho2 HO1 HB1 HW1
  go_wp2_with (with_reducible refine wpList_ld rfl (.agg (d.map bv).toArray) 36 (.tmp 3) (.pointer (some ⟨w.heap.size, 0, none⟩)) rfl rfl (HLD.out) ?_; refine stop ?_)
  refine Stop.on ?_
  go_wp2_with fail
  refine (To_calls _ _ _ l d _ (HH.out.step HW2.out) hsz HDL.out).mono ?_; rintro e w3 ⟨A3, n3, c3, rfl, ho3, hb3⟩
  have HB3 := hid (HB2.out.step hb3)
  have HW3 := hid (below_next HW2.out hb3)
  have HO1 := hid (HO1'.out.step hb3)
  have HO2' := hid (HO2.out.step hb3)
  have HO3 := hid ho3.bs
  have HLD3 := hid (HB3.out.ld_all (P := Try.prog) Try.underlying36 rfl HI1.out)
  clear hb3 ho3 HO1' HO2 HB2 HW2 HLD
  go_wp2_with (with_reducible refine wpList_ld rfl (.agg (d.map bv).toArray) 36 (.tmp 3) (.pointer (some ⟨w.heap.size, 0, none⟩)) rfl rfl (HLD3.out) ?_; refine stop ?_)
  refine Stop.on ?_
  go_wp2_with fail
  refine (rTo_calls _ _ _ l d _ (HH.out.step HW3.out) hsz HDL.out).mono ?_; rintro e w4 ⟨A4, n4, c4, rfl, ho4, hb4⟩
  have HW4 := hid (below_next HW3.out hb4)
  have HO1' := hid (HO1.out.step hb4)
  have HO2 := hid (HO2'.out.step hb4)
  have HO3' := hid (HO3.out.step hb4)
  have HO4 := hid ho4.bs
  clear hb4 ho4 HO1 HO2' HO3 HB3 HW3 HLD3
  go_wp2_with fail
  refine (Sized_calls _ _ _ l _ (HH.out.step HW4.out) hsz).mono ?_; rintro e w5 ⟨A5, n5, c5, rfl, ho5, hb5⟩
  have HW5 := hid (below_next HW4.out hb5)
  have HO1 := hid (HO1'.out.step hb5)
  have HO2' := hid (HO2.out.step hb5)
  have HO3 := hid (HO3'.out.step hb5)
  have HO4' := hid (HO4.out.step hb5)
  have HO5 := hid ho5.bs
  clear hb5 ho5 HO1' HO2 HO3' HO4 HW4
  go_wp2_with fail
  refine (rSized_calls _ _ _ l _ (HH.out.step HW5.out) hsz).mono ?_; rintro e w6 ⟨A6, n6, c6, rfl, ho6, hb6⟩
  have HW6 := hid (below_next HW5.out hb6)
  have hs1 := run_str (HO1.out.step hb6)
  have hs2 := run_str (HO2'.out.step hb6)
  have hs3 := run_str (HO3.out.step hb6)
  have hs4 := run_str (HO4'.out.step hb6)
  have hs5 := run_str (HO5.out.step hb6)
  have hs6 := run_str ho6.bs
  have hs7 := run_str (HH.out.step HW6.out)
  clear hb6 ho6 HO1 HO2' HO3 HO4' HO5 HW5
  go_wp2_with fail
  refine (lives4_calls _).mono ?_; rintro e w7 ⟨rfl, hb7⟩
  have hb7' := below_next HW6.out hb7
  clear hb7 hs1 hs2 hs3 hs4 hs5 hs6 hs7
  go_wp2
  go_ret
  exact ⟨rfl, hb7'⟩
end Go.Proofs.Ytmenonijbcljdaa
