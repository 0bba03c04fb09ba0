/- What came in, opened: a header, an address. -/
import Derived.Test.YtmenonijbcljdaaOpenf
import Derived.Test.YtmenonijbcljdaaSixp
namespace Go.Proofs.Ytmenonijbcljdaa
open Go Go.RowKit Go.Bas Go.ChangeShapes Go.WideShapes Go.ChangeAt

theorem bytes_of_ints {m : Nat} : ∀ {ns : List Int}, ns.length = m → Wfs (List.replicate m .u8) ns → ∃ l : List UInt8, ints (List.replicate m .u8) ns = l.map bv ∧ l.length = m := by
  induction m with
  | zero => intro ns h _; exact ⟨[], by simp [ints], rfl⟩
  | succ m ih =>
    intro ns h hw
    match ns, h with
    | n :: r, h =>
      have hw0 := hw (.u8, n) (by simp [List.replicate_succ])
      obtain ⟨l, e, hl⟩ := ih (ns := r) (by simpa using h) (fun p hp => hw p (by rw [List.replicate_succ, List.zip_cons_cons]; exact List.mem_cons_of_mem _ hp))
      have hb := bounds_u8 hw0
      refine ⟨UInt8.ofNat n.toNat :: l, ?_, by simp [hl]⟩
      unfold ints at e ⊢
      rw [List.replicate_succ, List.zipWith_cons_cons, e, List.map_cons]
      congr 1
      unfold bv
      rw [UInt8.toNat_ofNat']
      congr 1
      omega

theorem Try.flatAddr : flat Try.prog 2 36 = some (List.replicate 16 .u8) := by kernel_rfl
theorem Try.flatHead : flat Try.prog 3 38 = some headK := by kernel_rfl
theorem Try.cellsAddr : Try.prog.cellsOf 36 = (List.replicate 16 IntKind.u8).length := by kernel_rfl
theorem Try.cellsHead : Try.prog.cellsOf 38 = headK.length := by kernel_rfl

section
variable {H : Type} {enc : TypeId × Value → H} {W : World}
set_option maxRecDepth 100000 in
theorem open_addr {base : Nat} {v : Value} {x : DataW H} {p : List MemPlace} (hv : Value.okWide Try.prog W .any base 36 v) (h : DataW.Trod enc Try.prog W 0 (fun _ => true) true 36 v x p) :
    ∃ l : List UInt8, v = .agg (l.map bv).toArray ∧ l.length = 16 := by
  have h3 := open_flat (P := Try.prog) (enc := enc) (W := W) Try.flatAddr Try.underlying36 (by rfl) Try.cellsAddr (base := base) (v := v) (x := x) (p := p)
  have h4 := h3 hv h
  clear h3 hv h
  obtain ⟨ns, ev, hl, hw⟩ := h4
  obtain ⟨l, e, h2⟩ := bytes_of_ints (m := 16) (by simpa using hl) hw
  exact ⟨l, by rw [ev, e], h2⟩
set_option maxRecDepth 100000 in
theorem open_head {base : Nat} {v : Value} {x : DataW H} {p : List MemPlace} (hv : Value.okWide Try.prog W .any base 38 v) (h : DataW.Trod enc Try.prog W 0 (fun _ => true) true 38 v x p) :
    ∃ (c la ln nx hp : Int) (sd : List UInt8), v = .agg (headL c la ln nx hp sd).toArray ∧ sd.length = 32 := by
  have h3 := open_flat (P := Try.prog) (enc := enc) (W := W) Try.flatHead Try.underlying38 (by rfl) Try.cellsHead (base := base) (v := v) (x := x) (p := p)
  have h4 := h3 hv h
  clear h3 hv h
  obtain ⟨ns, ev, hl, hw⟩ := h4
  match ns, hl, hw with
  | c :: la :: ln :: nx :: hp :: r, hl, hw =>
    obtain ⟨l, e, h2⟩ := bytes_of_ints (m := 32) (ns := r) (by simpa [headK] using hl) (fun p hp => hw p (by unfold headK; simp only [List.zip_cons_cons]; exact List.mem_cons_of_mem _ (List.mem_cons_of_mem _ (List.mem_cons_of_mem _ (List.mem_cons_of_mem _ (List.mem_cons_of_mem _ hp))))))
    refine ⟨c, la, ln, nx, hp, l, ?_, h2⟩
    rw [ev]
    congr 2
    unfold headL headK
    unfold ints at e ⊢
    simp only [List.zipWith_cons_cons, e]
end
end Go.Proofs.Ytmenonijbcljdaa
