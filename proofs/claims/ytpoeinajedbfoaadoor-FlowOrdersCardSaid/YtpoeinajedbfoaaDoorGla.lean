/- Part Gla of the proof: laws used by the law of this claim. -/
import Derived.Test.YtpoeinajedbfoaaDoorRows
import Derived.Test.YtpoeinajedbfoaaDoorProg
import Derived.Shelf.Vars
import Derived.LaidLaws
import Derived.KernelRfl
import Derived.Deep.DeepHandedRow
import Derived.Test.YtpoeinajedbfoaaDoorGa
set_option linter.all false
namespace Go.Proofs.YtpoeinajedbfoaaDoor
open Go Go.ChangeShapes Go.WideShapes Go.ChangeAt
def litV : DataW Unit → Value
  | .lit (.int k n) => .int k n
  | _ => Go.undef
def flatV2 : DataW Unit → List Value
  | .agg l => l.map litV
  | d => [litV d]
def cellsV : DataW Unit → Array Value
  | .agg l => (l.flatMap flatV2).toArray
  | _ => #[]
def putV (cs : Array Value) : Obj → Obj
  | .cells _ t frozen => .cells cs t frozen
  | o => o
noncomputable def laidW (os : Os) : World :=
  { World.holding Tryd.prog os ⟨#[], #[], []⟩ with heap := ((((((World.holding Tryd.prog os ⟨#[], #[], []⟩).heap).modify 0 (putV (cellsV Rows.laid_internal_strconv_uint64pow10))).modify 4 (putV (cellsV Rows.laid_math_bits_deBruijn32tab))).modify 5 (putV (cellsV Rows.laid_math_bits_deBruijn64tab))).modify 3 (putV (cellsV Rows.laid_unicode_utf8_acceptRanges))).modify 2 (putV (cellsV Rows.laid_unicode_utf8_first)) }
theorem laid_next {P : Program} {w : World} {x : String × DataW Unit} {r : List (String × DataW Unit)} {ps : List MemPlace} (h : DataW.LaidVars P w (x :: r) ps) : ∃ q, DataW.LaidVars P w r q := by
  obtain ⟨n, d⟩ := x
  obtain ⟨_, _, _, _, _, q, _, _, _, _, h, _⟩ := h
  exact ⟨q, h⟩
theorem laid_tab {P : Program} {W : World} {name : String} {k : IntKind} {zs : List Int} {rest : List (String × DataW Unit)} {ps : List MemPlace} {g : Nat} {t e : TypeId} {n : Nat}
    (hg : P.globalNamed name = some g) (hty : (P.globals[g]?).map (·.type) = some t) (ht : P.underlying t = some (.array n e)) (he : P.underlying e = some (.int k)) (hce : P.cellsOf e = 1) (hct : P.cellsOf t = n)
    (h : DataW.LaidVars P W ((name, Lib.tabData k zs) :: rest) ps) : Lib.TabIs P W name k zs := by
  obtain ⟨g', t', cs, fuel, p, q, hg', ht', hvar, hd, _, _⟩ := h
  obtain rfl := Option.some.inj (hg.symm.trans hg')
  obtain rfl := Option.some.inj (hty.symm.trans ht')
  unfold Lib.TabIs
  rw [hvar, ← Lib.cells_of_tab ht he hce hct hd]
theorem isTab_of {P : Program} {W : World} {name : String} {k : IntKind} {zs : List Int} {g : Nat} (hg : P.globalNamed name = some g) (h : Lib.TabIs P W name k zs) : ∃ o, W.heap[g]? = some o ∧ Am.isTab k zs o := by
  unfold Lib.TabIs World.var? at h
  rw [hg] at h
  simp only [Option.bind_some] at h
  split at h
  · rename_i cs T fz hh
    injection h with h
    exact ⟨_, hh, T, fz, by rw [h]; rfl⟩
  · cases h
theorem isInt_of {W : World} {k : IntKind} {g : Nat} (h : ∃ m, W.cell? ⟨g, 0, none⟩ = some (.int k m)) : ∃ o, W.heap[g]? = some o ∧ Am.isInt k o := by
  obtain ⟨m, h⟩ := h
  unfold World.cell? at h
  split at h
  · rename_i c T fz hh
    exact ⟨_, hh, m, c, T, fz, rfl, by simpa using h⟩
  · cases h
theorem good_of {a b : String × DataW Unit} {rest : List (String × DataW Unit)} {W : World} (hL : laidMet Tryd.prog (a :: b :: ("internal/strconv.uint64pow10", Rows.laid_internal_strconv_uint64pow10) :: rest) W) (hsh : W.ShapedOpen Tryd.prog) : Am.LaidW W := by
  obtain ⟨ps, h1, _⟩ := hL
  obtain ⟨_, h2⟩ := laid_next h1
  obtain ⟨_, h3⟩ := laid_next h2
  rw [show Rows.laid_internal_strconv_uint64pow10 = Lib.tabData .u64 Lib.pow10Tab by kernel_rfl] at h3
  intro p hp
  simp only [Am.goods, List.mem_cons, List.not_mem_nil, or_false] at hp
  rcases hp with rfl | rfl
  · exact isTab_of (by kernel_rfl) (laid_tab (g := 0) (t := 132) (e := 88) (n := 20) (k := .u64) (zs := Lib.pow10Tab) (by kernel_rfl) (by kernel_rfl) (by kernel_rfl) (by kernel_rfl) (by kernel_rfl) (by kernel_rfl) h3)
  · exact isInt_of (Go.Proofs.cell_of_shapedOpen_int (zero := #[.int .i64 0]) (t := 3) hsh (of_decide_eq_true (by kernel_rfl)) (by kernel_rfl) rfl (by kernel_rfl) (by kernel_rfl) Tryd.underlying3)
end Go.Proofs.YtpoeinajedbfoaaDoor
