/- The fixed header: what is said of it, in plain words. -/
import Derived.Test.YtmenonijbcljdaaRow
import Derived.Test.YtmenonijbcljdaaFlat
import Derived.Test.YtmenonijbcljdaaOctb
namespace Go.Proofs.Ytmenonijbcljdaa
open Go.RowKit Go.Mix Go.Bas

/-- the cells of a header -/
def headL (c la ln nx hp : Int) (sd : List UInt8) : List Value := .int .i64 c :: .int .i64 la :: .int .i64 ln :: .int .i64 nx :: .int .i64 hp :: sd.map bv
def headN (c la ln nx hp : Int) (sd : List UInt8) : List Int := c :: la :: ln :: nx :: hp :: sd.map fun u => (u.toNat : Int)
def headK : List IntKind := .i64 :: .i64 :: .i64 :: .i64 :: .i64 :: List.replicate 32 .u8
theorem ints_bytes (l : List UInt8) : ints (List.replicate l.length .u8) (l.map fun u => (u.toNat : Int)) = l.map bv := by
  induction l with
  | nil => rfl
  | cons x r ih =>
    unfold ints at ih ⊢
    rw [List.length_cons, List.replicate_succ, List.map_cons, List.zipWith_cons_cons, ih]
    rfl
theorem headL_ints {c la ln nx hp : Int} {sd : List UInt8} (h : sd.length = 32) : headL c la ln nx hp sd = ints headK (headN c la ln nx hp sd) := by
  unfold headL headK headN
  have := ints_bytes sd
  rw [h] at this
  unfold ints at this ⊢
  simp only [List.zipWith_cons_cons, this]
theorem headN_len {c la ln nx hp : Int} {sd : List UInt8} (h : sd.length = 32) : (headN c la ln nx hp sd).length = headK.length := by
  simp [headN, headK, h]
theorem headL_len {c la ln nx hp : Int} {sd : List UInt8} (h : sd.length = 32) : (headL c la ln nx hp sd).length = 37 := by
  simp [headL, h]
theorem headN_inj {c la ln nx hp c' la' ln' nx' hp' : Int} {sd : List UInt8} : headN c la ln nx hp sd = headN c' la' ln' nx' hp' sd ↔ c = c' ∧ la = la' ∧ ln = ln' ∧ nx = nx' ∧ hp = hp' := by
  simp [headN]
theorem headL_one {c la ln nx hp : Int} {sd : List UInt8} : ∀ v ∈ headL c la ln nx hp sd, v.oneCell' = true := by
  intro v hv
  simp only [headL, List.mem_cons] at hv
  rcases hv with rfl | rfl | rfl | rfl | rfl | hv
  · rfl
  · rfl
  · rfl
  · rfl
  · rfl
  · exact bv_one sd v hv
theorem headL_src {c la ln nx hp : Int} {sd : List UInt8} : ((headL c la ln nx hp sd).drop 5).take 16 = (sd.take 16).map bv := by
  simp [headL]
theorem headL_dst {c la ln nx hp : Int} {sd : List UInt8} : ((headL c la ln nx hp sd).drop 21).take 16 = ((sd.drop 16).take 16).map bv := by
  simp [headL]
theorem headL_sets {c la ln nx hp : Int} {sd l : List UInt8} {i : Nat} : (headL c la ln nx hp sd).take (5 + i) ++ (l.map bv ++ (headL c la ln nx hp sd).drop (5 + i + l.length)) = headL c la ln nx hp (sd.take i ++ (l ++ sd.drop (i + l.length))) := by
  have e1 : 5 + i = i + 5 := by omega
  have e2 : 5 + i + l.length = (i + l.length) + 5 := by omega
  unfold headL
  rw [e2, e1]
  simp only [List.take_succ_cons, List.drop_succ_cons, List.cons_append, List.map_append, List.map_take, List.map_drop]
def okH (c la ln nx hp : Int) : Prop := (0 ≤ c ∧ c ≤ 255) ∧ (0 ≤ la ∧ la ≤ 1048575) ∧ (0 ≤ ln ∧ ln ≤ 65535) ∧ (0 ≤ nx ∧ nx ≤ 255) ∧ (0 ≤ hp ∧ hp ≤ 255)
instance (c la ln nx hp : Int) : Decidable (okH c la ln nx hp) := by unfold okH; infer_instance
def canH (c la ln nx hp : Int) : Int := if okH c la ln nx hp then 0 else 2
def within (n m : Int) : Int := min (max n 0) m
theorem within_eq {n m : Int} (hm : 0 ≤ m) : within n m = n ↔ 0 ≤ n ∧ n ≤ m := by
  unfold within
  omega
/-- the bytes of a header -/
def encH (c la ln nx hp : Int) (sd : List UInt8) : List UInt8 := four (1610612736 + c * 1048576 + la) ++ two ln ++ [b8 nx, b8 hp] ++ sd
theorem encH_len {c la ln nx hp : Int} {sd : List UInt8} (h : sd.length = 32) : (encH c la ln nx hp sd).length = 40 := by
  simp [encH, four, two, h]
end Go.Proofs.Ytmenonijbcljdaa
