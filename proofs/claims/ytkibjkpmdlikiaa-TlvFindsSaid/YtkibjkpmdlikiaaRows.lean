/-
  No cell of these rows narrows 'for every input' (looked for: loops, veiled, ifaces, maps, wideKeys, modest, calm, conditions, laid).
  DERIVED. THE GIVEN ROWS OF THIS SEAT. 12 by the template 'for every input the law returns true; each argument reads behind the call as it read before'; 0 by the template 'total and deterministic' (their statements: YtkibjkpmdlikiaaTotals.lean).
  GIVEN WITH THE SEED: the statements are not yours to turn. If you find one false, say at which input.
  Laid BY PROGRAM, IN A SANDBOX (cutbox-rows.mjs): the forced cells as the released guide's own fill.sh prints them over the translation 25fe5cb6e7d5df72… (all of the seat's roots in one cut). By AI agents, Wed Nov 11 2026. No macro, syntax, notation, axiom, sorry.
-/
import Derived.Test.YtkibjkpmdlikiaaChecked
import GoSem.Claim
import GoSem.ClaimJoined
import GoSem.ClaimMapViews
import Derived.JoinedTies
import Derived.KernelRfl
namespace Go.Proofs.Ytkibjkpmdlikiaa
/- THE CELL 'sum', in the pinned program and in every row, IS THE sha256 OF THE DUMP (.gsa) THAT YtkibjkpmdlikiaaProg.lean LOADS. Nothing in Lean hashes anything: it is a label: what it is worth is what the hold of that sum in a sandbox is worth. -/
noncomputable def Try.pinned : Pinned := { name := "ytkibjkpmdlikiaa", sum := "25fe5cb6e7d5df7252b844c129d844d0072a676e3f619ebb588e14a9ab83f0be", checked := Try.checked }
namespace Rows
def none {H : Type} : Left H := { results := [], args := [] }

/-- 'harrierlaw02.CksumSums': WHATEVER THE INPUT: true; the input reads as it did. -/
def cksumSumsSpec : ChangeSpec := { name := "cksumSums", fn := fun _ => fun
  | [d1, d2] => { results := [.lit (.bool true)], args := [d1, d2] }
  | _ => none }
def cksumSumsRow : OpenClaim := { program := "ytkibjkpmdlikiaa", sum := "25fe5cb6e7d5df7252b844c129d844d0072a676e3f619ebb588e14a9ab83f0be", func := "harrier/harrierlaw02.CksumSums", spec := "cksumSums", apart := false }
def CksumSumsSaid : Prop := cksumSumsRow.holds Try.pinned (OpenSpec.ofChange cksumSumsSpec)

/-- ITS FALSE NEIGHBOUR: 'it returns false'. Refute it at one input. -/
def cksumSumsWrong : ChangeSpec := { name := "cksumSums", fn := fun _ => fun
  | [d1, d2] => { results := [.lit (.bool false)], args := [d1, d2] }
  | _ => none }
def CksumSumsWrongFalsely : Prop := cksumSumsRow.holds Try.pinned (OpenSpec.ofChange cksumSumsWrong)

/-- 'harrierlaw02.CksumChecks': WHATEVER THE INPUT: true; the input reads as it did. -/
def cksumChecksSpec : ChangeSpec := { name := "cksumChecks", fn := fun _ => fun
  | [d1, d2, d3] => { results := [.lit (.bool true)], args := [d1, d2, d3] }
  | _ => none }
def cksumChecksRow : OpenClaim := { program := "ytkibjkpmdlikiaa", sum := "25fe5cb6e7d5df7252b844c129d844d0072a676e3f619ebb588e14a9ab83f0be", func := "harrier/harrierlaw02.CksumChecks", spec := "cksumChecks", apart := false }
def CksumChecksSaid : Prop := cksumChecksRow.holds Try.pinned (OpenSpec.ofChange cksumChecksSpec)

/-- ITS FALSE NEIGHBOUR: 'it returns false'. Refute it at one input. -/
def cksumChecksWrong : ChangeSpec := { name := "cksumChecks", fn := fun _ => fun
  | [d1, d2, d3] => { results := [.lit (.bool false)], args := [d1, d2, d3] }
  | _ => none }
def CksumChecksWrongFalsely : Prop := cksumChecksRow.holds Try.pinned (OpenSpec.ofChange cksumChecksWrong)

/-- 'harrierlaw02.CksumFine': WHATEVER THE INPUT: true; the input reads as it did. -/
def cksumFineSpec : ChangeSpec := { name := "cksumFine", fn := fun _ => fun
  | [d1, d2, d3] => { results := [.lit (.bool true)], args := [d1, d2, d3] }
  | _ => none }
def cksumFineRow : OpenClaim := { program := "ytkibjkpmdlikiaa", sum := "25fe5cb6e7d5df7252b844c129d844d0072a676e3f619ebb588e14a9ab83f0be", func := "harrier/harrierlaw02.CksumFine", spec := "cksumFine", apart := false }
def CksumFineSaid : Prop := cksumFineRow.holds Try.pinned (OpenSpec.ofChange cksumFineSpec)

/-- ITS FALSE NEIGHBOUR: 'it returns false'. Refute it at one input. -/
def cksumFineWrong : ChangeSpec := { name := "cksumFine", fn := fun _ => fun
  | [d1, d2, d3] => { results := [.lit (.bool false)], args := [d1, d2, d3] }
  | _ => none }
def CksumFineWrongFalsely : Prop := cksumFineRow.holds Try.pinned (OpenSpec.ofChange cksumFineWrong)

/-- 'harrierlaw02.CksumUpdates': WHATEVER THE INPUT: true; the input reads as it did. -/
def cksumUpdatesSpec : ChangeSpec := { name := "cksumUpdates", fn := fun _ => fun
  | [d1, d2, d3] => { results := [.lit (.bool true)], args := [d1, d2, d3] }
  | _ => none }
def cksumUpdatesRow : OpenClaim := { program := "ytkibjkpmdlikiaa", sum := "25fe5cb6e7d5df7252b844c129d844d0072a676e3f619ebb588e14a9ab83f0be", func := "harrier/harrierlaw02.CksumUpdates", spec := "cksumUpdates", apart := false }
def CksumUpdatesSaid : Prop := cksumUpdatesRow.holds Try.pinned (OpenSpec.ofChange cksumUpdatesSpec)

/-- ITS FALSE NEIGHBOUR: 'it returns false'. Refute it at one input. -/
def cksumUpdatesWrong : ChangeSpec := { name := "cksumUpdates", fn := fun _ => fun
  | [d1, d2, d3] => { results := [.lit (.bool false)], args := [d1, d2, d3] }
  | _ => none }
def CksumUpdatesWrongFalsely : Prop := cksumUpdatesRow.holds Try.pinned (OpenSpec.ofChange cksumUpdatesWrong)

/-- 'harrierlaw01.OctetsBack': WHATEVER THE INPUT: true; the input reads as it did. -/
def octetsBackSpec : ChangeSpec := { name := "octetsBack", fn := fun _ => fun
  | [d1, d2, d3] => { results := [.lit (.bool true)], args := [d1, d2, d3] }
  | _ => none }
def octetsBackRow : OpenClaim := { program := "ytkibjkpmdlikiaa", sum := "25fe5cb6e7d5df7252b844c129d844d0072a676e3f619ebb588e14a9ab83f0be", func := "harrier/harrierlaw01.OctetsBack", spec := "octetsBack", apart := false }
def OctetsBackSaid : Prop := octetsBackRow.holds Try.pinned (OpenSpec.ofChange octetsBackSpec)

/-- ITS FALSE NEIGHBOUR: 'it returns false'. Refute it at one input. -/
def octetsBackWrong : ChangeSpec := { name := "octetsBack", fn := fun _ => fun
  | [d1, d2, d3] => { results := [.lit (.bool false)], args := [d1, d2, d3] }
  | _ => none }
def OctetsBackWrongFalsely : Prop := octetsBackRow.holds Try.pinned (OpenSpec.ofChange octetsBackWrong)

/-- 'harrierlaw01.OctetsReads': WHATEVER THE INPUT: true; the input reads as it did. -/
def octetsReadsSpec : ChangeSpec := { name := "octetsReads", fn := fun _ => fun
  | [d1, d2, d3] => { results := [.lit (.bool true)], args := [d1, d2, d3] }
  | _ => none }
def octetsReadsRow : OpenClaim := { program := "ytkibjkpmdlikiaa", sum := "25fe5cb6e7d5df7252b844c129d844d0072a676e3f619ebb588e14a9ab83f0be", func := "harrier/harrierlaw01.OctetsReads", spec := "octetsReads", apart := false }
def OctetsReadsSaid : Prop := octetsReadsRow.holds Try.pinned (OpenSpec.ofChange octetsReadsSpec)

/-- ITS FALSE NEIGHBOUR: 'it returns false'. Refute it at one input. -/
def octetsReadsWrong : ChangeSpec := { name := "octetsReads", fn := fun _ => fun
  | [d1, d2, d3] => { results := [.lit (.bool false)], args := [d1, d2, d3] }
  | _ => none }
def OctetsReadsWrongFalsely : Prop := octetsReadsRow.holds Try.pinned (OpenSpec.ofChange octetsReadsWrong)

/-- 'harrierlaw01.OctetsLays': WHATEVER THE INPUT: true; the input reads as it did. -/
def octetsLaysSpec : ChangeSpec := { name := "octetsLays", fn := fun _ => fun
  | [d1, d2, d3] => { results := [.lit (.bool true)], args := [d1, d2, d3] }
  | _ => none }
def octetsLaysRow : OpenClaim := { program := "ytkibjkpmdlikiaa", sum := "25fe5cb6e7d5df7252b844c129d844d0072a676e3f619ebb588e14a9ab83f0be", func := "harrier/harrierlaw01.OctetsLays", spec := "octetsLays", apart := false }
def OctetsLaysSaid : Prop := octetsLaysRow.holds Try.pinned (OpenSpec.ofChange octetsLaysSpec)

/-- ITS FALSE NEIGHBOUR: 'it returns false'. Refute it at one input. -/
def octetsLaysWrong : ChangeSpec := { name := "octetsLays", fn := fun _ => fun
  | [d1, d2, d3] => { results := [.lit (.bool false)], args := [d1, d2, d3] }
  | _ => none }
def OctetsLaysWrongFalsely : Prop := octetsLaysRow.holds Try.pinned (OpenSpec.ofChange octetsLaysWrong)

/-- 'harrierlaw01.OctetsNew': WHATEVER THE INPUT: true; the input reads as it did. -/
def octetsNewSpec : ChangeSpec := { name := "octetsNew", fn := fun _ => fun
  | [d1, d2, d3] => { results := [.lit (.bool true)], args := [d1, d2, d3] }
  | _ => none }
def octetsNewRow : OpenClaim := { program := "ytkibjkpmdlikiaa", sum := "25fe5cb6e7d5df7252b844c129d844d0072a676e3f619ebb588e14a9ab83f0be", func := "harrier/harrierlaw01.OctetsNew", spec := "octetsNew", apart := false }
def OctetsNewSaid : Prop := octetsNewRow.holds Try.pinned (OpenSpec.ofChange octetsNewSpec)

/-- ITS FALSE NEIGHBOUR: 'it returns false'. Refute it at one input. -/
def octetsNewWrong : ChangeSpec := { name := "octetsNew", fn := fun _ => fun
  | [d1, d2, d3] => { results := [.lit (.bool false)], args := [d1, d2, d3] }
  | _ => none }
def OctetsNewWrongFalsely : Prop := octetsNewRow.holds Try.pinned (OpenSpec.ofChange octetsNewWrong)

/-- 'harrierlaw09.TlvPuts': WHATEVER THE INPUT: true; the input reads as it did. -/
def tlvPutsSpec : ChangeSpec := { name := "tlvPuts", fn := fun _ => fun
  | [d1, d2] => { results := [.lit (.bool true)], args := [d1, d2] }
  | _ => none }
def tlvPutsRow : OpenClaim := { program := "ytkibjkpmdlikiaa", sum := "25fe5cb6e7d5df7252b844c129d844d0072a676e3f619ebb588e14a9ab83f0be", func := "harrier/harrierlaw09.TlvPuts", spec := "tlvPuts", apart := false }
def TlvPutsSaid : Prop := tlvPutsRow.holds Try.pinned (OpenSpec.ofChange tlvPutsSpec)

/-- ITS FALSE NEIGHBOUR: 'it returns false'. Refute it at one input. -/
def tlvPutsWrong : ChangeSpec := { name := "tlvPuts", fn := fun _ => fun
  | [d1, d2] => { results := [.lit (.bool false)], args := [d1, d2] }
  | _ => none }
def TlvPutsWrongFalsely : Prop := tlvPutsRow.holds Try.pinned (OpenSpec.ofChange tlvPutsWrong)

/-- 'harrierlaw09.TlvParses': WHATEVER THE INPUT: true; the input reads as it did. -/
def tlvParsesSpec : ChangeSpec := { name := "tlvParses", fn := fun _ => fun
  | [d] => { results := [.lit (.bool true)], args := [d] }
  | _ => none }
def tlvParsesRow : OpenClaim := { program := "ytkibjkpmdlikiaa", sum := "25fe5cb6e7d5df7252b844c129d844d0072a676e3f619ebb588e14a9ab83f0be", func := "harrier/harrierlaw09.TlvParses", spec := "tlvParses", apart := false }
def TlvParsesSaid : Prop := tlvParsesRow.holds Try.pinned (OpenSpec.ofChange tlvParsesSpec)

/-- ITS FALSE NEIGHBOUR: 'it returns false'. Refute it at one input. -/
def tlvParsesWrong : ChangeSpec := { name := "tlvParses", fn := fun _ => fun
  | [d] => { results := [.lit (.bool false)], args := [d] }
  | _ => none }
def TlvParsesWrongFalsely : Prop := tlvParsesRow.holds Try.pinned (OpenSpec.ofChange tlvParsesWrong)

/-- 'harrierlaw09.TlvBack': WHATEVER THE INPUT: true; the input reads as it did. -/
def tlvBackSpec : ChangeSpec := { name := "tlvBack", fn := fun _ => fun
  | [d1, d2, d3] => { results := [.lit (.bool true)], args := [d1, d2, d3] }
  | _ => none }
def tlvBackRow : OpenClaim := { program := "ytkibjkpmdlikiaa", sum := "25fe5cb6e7d5df7252b844c129d844d0072a676e3f619ebb588e14a9ab83f0be", func := "harrier/harrierlaw09.TlvBack", spec := "tlvBack", apart := false }
def TlvBackSaid : Prop := tlvBackRow.holds Try.pinned (OpenSpec.ofChange tlvBackSpec)

/-- ITS FALSE NEIGHBOUR: 'it returns false'. Refute it at one input. -/
def tlvBackWrong : ChangeSpec := { name := "tlvBack", fn := fun _ => fun
  | [d1, d2, d3] => { results := [.lit (.bool false)], args := [d1, d2, d3] }
  | _ => none }
def TlvBackWrongFalsely : Prop := tlvBackRow.holds Try.pinned (OpenSpec.ofChange tlvBackWrong)

/-- 'harrierlaw09.TlvFinds': WHATEVER THE INPUT: true; the input reads as it did. -/
def tlvFindsSpec : ChangeSpec := { name := "tlvFinds", fn := fun _ => fun
  | [d1, d2] => { results := [.lit (.bool true)], args := [d1, d2] }
  | _ => none }
def tlvFindsRow : OpenClaim := { program := "ytkibjkpmdlikiaa", sum := "25fe5cb6e7d5df7252b844c129d844d0072a676e3f619ebb588e14a9ab83f0be", func := "harrier/harrierlaw09.TlvFinds", spec := "tlvFinds", apart := false }
def TlvFindsSaid : Prop := tlvFindsRow.holds Try.pinned (OpenSpec.ofChange tlvFindsSpec)

/-- ITS FALSE NEIGHBOUR: 'it returns false'. Refute it at one input. -/
def tlvFindsWrong : ChangeSpec := { name := "tlvFinds", fn := fun _ => fun
  | [d1, d2] => { results := [.lit (.bool false)], args := [d1, d2] }
  | _ => none }
def TlvFindsWrongFalsely : Prop := tlvFindsRow.holds Try.pinned (OpenSpec.ofChange tlvFindsWrong)

/- THE SECOND FORM. 'bulk': how many values and letters a reading holds, each counted each time it is reached (what is shared counts as often as it is met; a slice's spare places count too). A statement '..UptoSaid' is the law's where the arguments, and the package variables that the reading takes, are together of bulk at most 1048576: NARROWER than '..Said'. Prove '..Said' where nothing that the law and all that it calls make is longer than what came in: it says more and counts as full. Else prove '..UptoSaid'. A law counts once. -/
mutual
def uptoBulk {H : Type} : DataW H → Nat
  | .lit (.string bytes) => bytes.length + 1
  | .lit _ => 1
  | .nil => 1
  | .ptr d => uptoBulk d + 1
  | .slice elems spare => uptoBulkAll elems + uptoBulkAll spare + 1
  | .agg parts => uptoBulkAll parts + 1
  | .iface _ d => uptoBulk d + 1
  | .map entries => uptoBulkEntries entries + 1
  | .held _ => 1
def uptoBulkAll {H : Type} : List (DataW H) → Nat
  | [] => 0
  | d :: r => uptoBulk d + uptoBulkAll r
def uptoBulkEntries {H : Type} : List (Lit × DataW H) → Nat
  | [] => 0
  | x :: r => uptoBulkEntry x + uptoBulkEntries r
def uptoBulkEntry {H : Type} : Lit × DataW H → Nat
  | (.string bytes, d) => bytes.length + uptoBulk d + 1
  | (_, d) => uptoBulk d + 1
 end
def uptoSmall : (H : Type) → List (DataW H) → Bool := fun _ ds => decide (uptoBulkAll ds ≤ 1048576)
def OpenSpec.upto (s : _root_.Go.ChangeSpec) : _root_.Go.OpenSpec := { _root_.Go.OpenSpec.ofChange s with cond := some uptoSmall }

/-- 'harrierlaw02.CksumSums', WHERE WHAT IT READS IS OF BULK AT MOST 1048576: true; the input reads as it did. -/
def cksumSumsUptoRow : OpenClaim := { program := "ytkibjkpmdlikiaa", sum := "25fe5cb6e7d5df7252b844c129d844d0072a676e3f619ebb588e14a9ab83f0be", func := "harrier/harrierlaw02.CksumSums", spec := "cksumSums", apart := false, narrowed := true }
def CksumSumsUptoSaid : Prop := cksumSumsUptoRow.holds Try.pinned (OpenSpec.upto cksumSumsSpec)

/-- 'harrierlaw02.CksumChecks', WHERE WHAT IT READS IS OF BULK AT MOST 1048576: true; the input reads as it did. -/
def cksumChecksUptoRow : OpenClaim := { program := "ytkibjkpmdlikiaa", sum := "25fe5cb6e7d5df7252b844c129d844d0072a676e3f619ebb588e14a9ab83f0be", func := "harrier/harrierlaw02.CksumChecks", spec := "cksumChecks", apart := false, narrowed := true }
def CksumChecksUptoSaid : Prop := cksumChecksUptoRow.holds Try.pinned (OpenSpec.upto cksumChecksSpec)

/-- 'harrierlaw02.CksumFine', WHERE WHAT IT READS IS OF BULK AT MOST 1048576: true; the input reads as it did. -/
def cksumFineUptoRow : OpenClaim := { program := "ytkibjkpmdlikiaa", sum := "25fe5cb6e7d5df7252b844c129d844d0072a676e3f619ebb588e14a9ab83f0be", func := "harrier/harrierlaw02.CksumFine", spec := "cksumFine", apart := false, narrowed := true }
def CksumFineUptoSaid : Prop := cksumFineUptoRow.holds Try.pinned (OpenSpec.upto cksumFineSpec)

/-- 'harrierlaw02.CksumUpdates', WHERE WHAT IT READS IS OF BULK AT MOST 1048576: true; the input reads as it did. -/
def cksumUpdatesUptoRow : OpenClaim := { program := "ytkibjkpmdlikiaa", sum := "25fe5cb6e7d5df7252b844c129d844d0072a676e3f619ebb588e14a9ab83f0be", func := "harrier/harrierlaw02.CksumUpdates", spec := "cksumUpdates", apart := false, narrowed := true }
def CksumUpdatesUptoSaid : Prop := cksumUpdatesUptoRow.holds Try.pinned (OpenSpec.upto cksumUpdatesSpec)

/-- 'harrierlaw01.OctetsBack', WHERE WHAT IT READS IS OF BULK AT MOST 1048576: true; the input reads as it did. -/
def octetsBackUptoRow : OpenClaim := { program := "ytkibjkpmdlikiaa", sum := "25fe5cb6e7d5df7252b844c129d844d0072a676e3f619ebb588e14a9ab83f0be", func := "harrier/harrierlaw01.OctetsBack", spec := "octetsBack", apart := false, narrowed := true }
def OctetsBackUptoSaid : Prop := octetsBackUptoRow.holds Try.pinned (OpenSpec.upto octetsBackSpec)

/-- 'harrierlaw01.OctetsReads', WHERE WHAT IT READS IS OF BULK AT MOST 1048576: true; the input reads as it did. -/
def octetsReadsUptoRow : OpenClaim := { program := "ytkibjkpmdlikiaa", sum := "25fe5cb6e7d5df7252b844c129d844d0072a676e3f619ebb588e14a9ab83f0be", func := "harrier/harrierlaw01.OctetsReads", spec := "octetsReads", apart := false, narrowed := true }
def OctetsReadsUptoSaid : Prop := octetsReadsUptoRow.holds Try.pinned (OpenSpec.upto octetsReadsSpec)

/-- 'harrierlaw01.OctetsLays', WHERE WHAT IT READS IS OF BULK AT MOST 1048576: true; the input reads as it did. -/
def octetsLaysUptoRow : OpenClaim := { program := "ytkibjkpmdlikiaa", sum := "25fe5cb6e7d5df7252b844c129d844d0072a676e3f619ebb588e14a9ab83f0be", func := "harrier/harrierlaw01.OctetsLays", spec := "octetsLays", apart := false, narrowed := true }
def OctetsLaysUptoSaid : Prop := octetsLaysUptoRow.holds Try.pinned (OpenSpec.upto octetsLaysSpec)

/-- 'harrierlaw01.OctetsNew', WHERE WHAT IT READS IS OF BULK AT MOST 1048576: true; the input reads as it did. -/
def octetsNewUptoRow : OpenClaim := { program := "ytkibjkpmdlikiaa", sum := "25fe5cb6e7d5df7252b844c129d844d0072a676e3f619ebb588e14a9ab83f0be", func := "harrier/harrierlaw01.OctetsNew", spec := "octetsNew", apart := false, narrowed := true }
def OctetsNewUptoSaid : Prop := octetsNewUptoRow.holds Try.pinned (OpenSpec.upto octetsNewSpec)

/-- 'harrierlaw09.TlvPuts', WHERE WHAT IT READS IS OF BULK AT MOST 1048576: true; the input reads as it did. -/
def tlvPutsUptoRow : OpenClaim := { program := "ytkibjkpmdlikiaa", sum := "25fe5cb6e7d5df7252b844c129d844d0072a676e3f619ebb588e14a9ab83f0be", func := "harrier/harrierlaw09.TlvPuts", spec := "tlvPuts", apart := false, narrowed := true }
def TlvPutsUptoSaid : Prop := tlvPutsUptoRow.holds Try.pinned (OpenSpec.upto tlvPutsSpec)

/-- 'harrierlaw09.TlvParses', WHERE WHAT IT READS IS OF BULK AT MOST 1048576: true; the input reads as it did. -/
def tlvParsesUptoRow : OpenClaim := { program := "ytkibjkpmdlikiaa", sum := "25fe5cb6e7d5df7252b844c129d844d0072a676e3f619ebb588e14a9ab83f0be", func := "harrier/harrierlaw09.TlvParses", spec := "tlvParses", apart := false, narrowed := true }
def TlvParsesUptoSaid : Prop := tlvParsesUptoRow.holds Try.pinned (OpenSpec.upto tlvParsesSpec)

/-- 'harrierlaw09.TlvBack', WHERE WHAT IT READS IS OF BULK AT MOST 1048576: true; the input reads as it did. -/
def tlvBackUptoRow : OpenClaim := { program := "ytkibjkpmdlikiaa", sum := "25fe5cb6e7d5df7252b844c129d844d0072a676e3f619ebb588e14a9ab83f0be", func := "harrier/harrierlaw09.TlvBack", spec := "tlvBack", apart := false, narrowed := true }
def TlvBackUptoSaid : Prop := tlvBackUptoRow.holds Try.pinned (OpenSpec.upto tlvBackSpec)

/-- 'harrierlaw09.TlvFinds', WHERE WHAT IT READS IS OF BULK AT MOST 1048576: true; the input reads as it did. -/
def tlvFindsUptoRow : OpenClaim := { program := "ytkibjkpmdlikiaa", sum := "25fe5cb6e7d5df7252b844c129d844d0072a676e3f619ebb588e14a9ab83f0be", func := "harrier/harrierlaw09.TlvFinds", spec := "tlvFinds", apart := false, narrowed := true }
def TlvFindsUptoSaid : Prop := tlvFindsUptoRow.holds Try.pinned (OpenSpec.upto tlvFindsSpec)

end Rows
end Go.Proofs.Ytkibjkpmdlikiaa
