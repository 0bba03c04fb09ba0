/-
  No cell of these rows narrows 'for every input' (looked for: loops, veiled, ifaces, maps, wideKeys, modest, calm, conditions, laid).
  DERIVED. THE GIVEN ROWS OF THIS SEAT. 17 by the template 'for every input the law returns true; each argument reads behind the call as it read before'; 0 by the template 'total and deterministic' (their statements: YthbllfhaaidhjaaTotals.lean).
  GIVEN WITH THE SEED: the statements are not yours to turn. If you find one false, say at which input.
  Laid BY PROGRAM, IN A SANDBOX (cutbox-rows.mjs): the forced cells as the released guide's own fill.sh prints them over the translation 4434d1b705019f1c… (all of the seat's roots in one cut). By AI agents, Wed Nov 11 2026. No macro, syntax, notation, axiom, sorry.
-/
import Derived.Test.YthbllfhaaidhjaaChecked
import GoSem.Claim
import GoSem.ClaimJoined
import GoSem.ClaimMapViews
import Derived.JoinedTies
import Derived.KernelRfl
namespace Go.Proofs.Ythbllfhaaidhjaa
/- THE CELL 'sum', in the pinned program and in every row, IS THE sha256 OF THE DUMP (.gsa) THAT YthbllfhaaidhjaaProg.lean LOADS. Nothing in Lean hashes anything: it is a label: what it is worth is what the hold of that sum in a sandbox is worth. -/
noncomputable def Try.pinned : Pinned := { name := "ythbllfhaaidhjaa", sum := "4434d1b705019f1c7fe3aca4c647fc3e3d0793323d4a383bedcc128567e41817", checked := Try.checked }
namespace Rows
def none {H : Type} : Left H := { results := [], args := [] }

/-- 'harrierlaw08.IcmpPuts': WHATEVER THE INPUT: true; the input reads as it did. -/
def icmpPutsSpec : ChangeSpec := { name := "icmpPuts", fn := fun _ => fun
  | [d1, d2] => { results := [.lit (.bool true)], args := [d1, d2] }
  | _ => none }
def icmpPutsRow : OpenClaim := { program := "ythbllfhaaidhjaa", sum := "4434d1b705019f1c7fe3aca4c647fc3e3d0793323d4a383bedcc128567e41817", func := "harrier/harrierlaw08.IcmpPuts", spec := "icmpPuts", unfollowed := true, recurses := true, apart := false }
def IcmpPutsSaid : Prop := icmpPutsRow.holds Try.pinned (OpenSpec.ofChange icmpPutsSpec)

/-- ITS FALSE NEIGHBOUR: 'it returns false'. Refute it at one input. -/
def icmpPutsWrong : ChangeSpec := { name := "icmpPuts", fn := fun _ => fun
  | [d1, d2] => { results := [.lit (.bool false)], args := [d1, d2] }
  | _ => none }
def IcmpPutsWrongFalsely : Prop := icmpPutsRow.holds Try.pinned (OpenSpec.ofChange icmpPutsWrong)

/-- 'harrierlaw08.IcmpMakes': WHATEVER THE INPUT: true; the input reads as it did. -/
def icmpMakesSpec : ChangeSpec := { name := "icmpMakes", fn := fun _ => fun
  | [d1, d2, d3] => { results := [.lit (.bool true)], args := [d1, d2, d3] }
  | _ => none }
def icmpMakesRow : OpenClaim := { program := "ythbllfhaaidhjaa", sum := "4434d1b705019f1c7fe3aca4c647fc3e3d0793323d4a383bedcc128567e41817", func := "harrier/harrierlaw08.IcmpMakes", spec := "icmpMakes", unfollowed := true, recurses := true, apart := false }
def IcmpMakesSaid : Prop := icmpMakesRow.holds Try.pinned (OpenSpec.ofChange icmpMakesSpec)

/-- ITS FALSE NEIGHBOUR: 'it returns false'. Refute it at one input. -/
def icmpMakesWrong : ChangeSpec := { name := "icmpMakes", fn := fun _ => fun
  | [d1, d2, d3] => { results := [.lit (.bool false)], args := [d1, d2, d3] }
  | _ => none }
def IcmpMakesWrongFalsely : Prop := icmpMakesRow.holds Try.pinned (OpenSpec.ofChange icmpMakesWrong)

/-- 'harrierlaw06.ToptPuts': WHATEVER THE INPUT: true; the input reads as it did. -/
def toptPutsSpec : ChangeSpec := { name := "toptPuts", fn := fun _ => fun
  | [d] => { results := [.lit (.bool true)], args := [d] }
  | _ => none }
def toptPutsRow : OpenClaim := { program := "ythbllfhaaidhjaa", sum := "4434d1b705019f1c7fe3aca4c647fc3e3d0793323d4a383bedcc128567e41817", func := "harrier/harrierlaw06.ToptPuts", spec := "toptPuts", unfollowed := true, recurses := true, apart := false }
def ToptPutsSaid : Prop := toptPutsRow.holds Try.pinned (OpenSpec.ofChange toptPutsSpec)

/-- ITS FALSE NEIGHBOUR: 'it returns false'. Refute it at one input. -/
def toptPutsWrong : ChangeSpec := { name := "toptPuts", fn := fun _ => fun
  | [d] => { results := [.lit (.bool false)], args := [d] }
  | _ => none }
def ToptPutsWrongFalsely : Prop := toptPutsRow.holds Try.pinned (OpenSpec.ofChange toptPutsWrong)

/-- 'harrierlaw06.ToptParses': WHATEVER THE INPUT: true; the input reads as it did. -/
def toptParsesSpec : ChangeSpec := { name := "toptParses", fn := fun _ => fun
  | [d] => { results := [.lit (.bool true)], args := [d] }
  | _ => none }
def toptParsesRow : OpenClaim := { program := "ythbllfhaaidhjaa", sum := "4434d1b705019f1c7fe3aca4c647fc3e3d0793323d4a383bedcc128567e41817", func := "harrier/harrierlaw06.ToptParses", spec := "toptParses", unfollowed := true, recurses := true, apart := false }
def ToptParsesSaid : Prop := toptParsesRow.holds Try.pinned (OpenSpec.ofChange toptParsesSpec)

/-- ITS FALSE NEIGHBOUR: 'it returns false'. Refute it at one input. -/
def toptParsesWrong : ChangeSpec := { name := "toptParses", fn := fun _ => fun
  | [d] => { results := [.lit (.bool false)], args := [d] }
  | _ => none }
def ToptParsesWrongFalsely : Prop := toptParsesRow.holds Try.pinned (OpenSpec.ofChange toptParsesWrong)

/-- 'harrierlaw06.ToptBack': WHATEVER THE INPUT: true; the input reads as it did. -/
def toptBackSpec : ChangeSpec := { name := "toptBack", fn := fun _ => fun
  | [d] => { results := [.lit (.bool true)], args := [d] }
  | _ => none }
def toptBackRow : OpenClaim := { program := "ythbllfhaaidhjaa", sum := "4434d1b705019f1c7fe3aca4c647fc3e3d0793323d4a383bedcc128567e41817", func := "harrier/harrierlaw06.ToptBack", spec := "toptBack", unfollowed := true, recurses := true, apart := false }
def ToptBackSaid : Prop := toptBackRow.holds Try.pinned (OpenSpec.ofChange toptBackSpec)

/-- ITS FALSE NEIGHBOUR: 'it returns false'. Refute it at one input. -/
def toptBackWrong : ChangeSpec := { name := "toptBack", fn := fun _ => fun
  | [d] => { results := [.lit (.bool false)], args := [d] }
  | _ => none }
def ToptBackWrongFalsely : Prop := toptBackRow.holds Try.pinned (OpenSpec.ofChange toptBackWrong)

/-- 'harrierlaw08.IcmpParses': WHATEVER THE INPUT: true; the input reads as it did. -/
def icmpParsesSpec : ChangeSpec := { name := "icmpParses", fn := fun _ => fun
  | [d1, d2] => { results := [.lit (.bool true)], args := [d1, d2] }
  | _ => none }
def icmpParsesRow : OpenClaim := { program := "ythbllfhaaidhjaa", sum := "4434d1b705019f1c7fe3aca4c647fc3e3d0793323d4a383bedcc128567e41817", func := "harrier/harrierlaw08.IcmpParses", spec := "icmpParses", unfollowed := true, recurses := true, apart := false }
def IcmpParsesSaid : Prop := icmpParsesRow.holds Try.pinned (OpenSpec.ofChange icmpParsesSpec)

/-- ITS FALSE NEIGHBOUR: 'it returns false'. Refute it at one input. -/
def icmpParsesWrong : ChangeSpec := { name := "icmpParses", fn := fun _ => fun
  | [d1, d2] => { results := [.lit (.bool false)], args := [d1, d2] }
  | _ => none }
def IcmpParsesWrongFalsely : Prop := icmpParsesRow.holds Try.pinned (OpenSpec.ofChange icmpParsesWrong)

/-- 'harrierlaw08.IcmpBack': WHATEVER THE INPUT: true; the input reads as it did. -/
def icmpBackSpec : ChangeSpec := { name := "icmpBack", fn := fun _ => fun
  | [d1, d2] => { results := [.lit (.bool true)], args := [d1, d2] }
  | _ => none }
def icmpBackRow : OpenClaim := { program := "ythbllfhaaidhjaa", sum := "4434d1b705019f1c7fe3aca4c647fc3e3d0793323d4a383bedcc128567e41817", func := "harrier/harrierlaw08.IcmpBack", spec := "icmpBack", unfollowed := true, recurses := true, apart := false }
def IcmpBackSaid : Prop := icmpBackRow.holds Try.pinned (OpenSpec.ofChange icmpBackSpec)

/-- ITS FALSE NEIGHBOUR: 'it returns false'. Refute it at one input. -/
def icmpBackWrong : ChangeSpec := { name := "icmpBack", fn := fun _ => fun
  | [d1, d2] => { results := [.lit (.bool false)], args := [d1, d2] }
  | _ => none }
def IcmpBackWrongFalsely : Prop := icmpBackRow.holds Try.pinned (OpenSpec.ofChange icmpBackWrong)

/-- 'harrierlaw06.ToptFinds': WHATEVER THE INPUT: true; the input reads as it did. -/
def toptFindsSpec : ChangeSpec := { name := "toptFinds", fn := fun _ => fun
  | [d1, d2] => { results := [.lit (.bool true)], args := [d1, d2] }
  | _ => none }
def toptFindsRow : OpenClaim := { program := "ythbllfhaaidhjaa", sum := "4434d1b705019f1c7fe3aca4c647fc3e3d0793323d4a383bedcc128567e41817", func := "harrier/harrierlaw06.ToptFinds", spec := "toptFinds", unfollowed := true, recurses := true, apart := false }
def ToptFindsSaid : Prop := toptFindsRow.holds Try.pinned (OpenSpec.ofChange toptFindsSpec)

/-- ITS FALSE NEIGHBOUR: 'it returns false'. Refute it at one input. -/
def toptFindsWrong : ChangeSpec := { name := "toptFinds", fn := fun _ => fun
  | [d1, d2] => { results := [.lit (.bool false)], args := [d1, d2] }
  | _ => none }
def ToptFindsWrongFalsely : Prop := toptFindsRow.holds Try.pinned (OpenSpec.ofChange toptFindsWrong)

/-- 'harrierlaw10.SrhPuts': WHATEVER THE INPUT: true; the input reads as it did. -/
def srhPutsSpec : ChangeSpec := { name := "srhPuts", fn := fun _ => fun
  | [d] => { results := [.lit (.bool true)], args := [d] }
  | _ => none }
def srhPutsRow : OpenClaim := { program := "ythbllfhaaidhjaa", sum := "4434d1b705019f1c7fe3aca4c647fc3e3d0793323d4a383bedcc128567e41817", func := "harrier/harrierlaw10.SrhPuts", spec := "srhPuts", apart := false }
def SrhPutsSaid : Prop := srhPutsRow.holds Try.pinned (OpenSpec.ofChange srhPutsSpec)

/-- ITS FALSE NEIGHBOUR: 'it returns false'. Refute it at one input. -/
def srhPutsWrong : ChangeSpec := { name := "srhPuts", fn := fun _ => fun
  | [d] => { results := [.lit (.bool false)], args := [d] }
  | _ => none }
def SrhPutsWrongFalsely : Prop := srhPutsRow.holds Try.pinned (OpenSpec.ofChange srhPutsWrong)

/-- 'harrierlaw10.SrhParses': WHATEVER THE INPUT: true; the input reads as it did. -/
def srhParsesSpec : ChangeSpec := { name := "srhParses", fn := fun _ => fun
  | [d] => { results := [.lit (.bool true)], args := [d] }
  | _ => none }
def srhParsesRow : OpenClaim := { program := "ythbllfhaaidhjaa", sum := "4434d1b705019f1c7fe3aca4c647fc3e3d0793323d4a383bedcc128567e41817", func := "harrier/harrierlaw10.SrhParses", spec := "srhParses", apart := false }
def SrhParsesSaid : Prop := srhParsesRow.holds Try.pinned (OpenSpec.ofChange srhParsesSpec)

/-- ITS FALSE NEIGHBOUR: 'it returns false'. Refute it at one input. -/
def srhParsesWrong : ChangeSpec := { name := "srhParses", fn := fun _ => fun
  | [d] => { results := [.lit (.bool false)], args := [d] }
  | _ => none }
def SrhParsesWrongFalsely : Prop := srhParsesRow.holds Try.pinned (OpenSpec.ofChange srhParsesWrong)

/-- 'harrierlaw10.SrhBack': WHATEVER THE INPUT: true; the input reads as it did. -/
def srhBackSpec : ChangeSpec := { name := "srhBack", fn := fun _ => fun
  | [d1, d2] => { results := [.lit (.bool true)], args := [d1, d2] }
  | _ => none }
def srhBackRow : OpenClaim := { program := "ythbllfhaaidhjaa", sum := "4434d1b705019f1c7fe3aca4c647fc3e3d0793323d4a383bedcc128567e41817", func := "harrier/harrierlaw10.SrhBack", spec := "srhBack", apart := false }
def SrhBackSaid : Prop := srhBackRow.holds Try.pinned (OpenSpec.ofChange srhBackSpec)

/-- ITS FALSE NEIGHBOUR: 'it returns false'. Refute it at one input. -/
def srhBackWrong : ChangeSpec := { name := "srhBack", fn := fun _ => fun
  | [d1, d2] => { results := [.lit (.bool false)], args := [d1, d2] }
  | _ => none }
def SrhBackWrongFalsely : Prop := srhBackRow.holds Try.pinned (OpenSpec.ofChange srhBackWrong)

/-- 'harrierlaw10.SrhTells': WHATEVER THE INPUT: true; the input reads as it did. -/
def srhTellsSpec : ChangeSpec := { name := "srhTells", fn := fun _ => fun
  | [d] => { results := [.lit (.bool true)], args := [d] }
  | _ => none }
def srhTellsRow : OpenClaim := { program := "ythbllfhaaidhjaa", sum := "4434d1b705019f1c7fe3aca4c647fc3e3d0793323d4a383bedcc128567e41817", func := "harrier/harrierlaw10.SrhTells", spec := "srhTells", apart := false }
def SrhTellsSaid : Prop := srhTellsRow.holds Try.pinned (OpenSpec.ofChange srhTellsSpec)

/-- ITS FALSE NEIGHBOUR: 'it returns false'. Refute it at one input. -/
def srhTellsWrong : ChangeSpec := { name := "srhTells", fn := fun _ => fun
  | [d] => { results := [.lit (.bool false)], args := [d] }
  | _ => none }
def SrhTellsWrongFalsely : Prop := srhTellsRow.holds Try.pinned (OpenSpec.ofChange srhTellsWrong)

/-- 'harrierlaw07.TcpPuts': WHATEVER THE INPUT: true; the input reads as it did. -/
def tcpPutsSpec : ChangeSpec := { name := "tcpPuts", fn := fun _ => fun
  | [d] => { results := [.lit (.bool true)], args := [d] }
  | _ => none }
def tcpPutsRow : OpenClaim := { program := "ythbllfhaaidhjaa", sum := "4434d1b705019f1c7fe3aca4c647fc3e3d0793323d4a383bedcc128567e41817", func := "harrier/harrierlaw07.TcpPuts", spec := "tcpPuts", unfollowed := true, recurses := true, apart := false }
def TcpPutsSaid : Prop := tcpPutsRow.holds Try.pinned (OpenSpec.ofChange tcpPutsSpec)

/-- ITS FALSE NEIGHBOUR: 'it returns false'. Refute it at one input. -/
def tcpPutsWrong : ChangeSpec := { name := "tcpPuts", fn := fun _ => fun
  | [d] => { results := [.lit (.bool false)], args := [d] }
  | _ => none }
def TcpPutsWrongFalsely : Prop := tcpPutsRow.holds Try.pinned (OpenSpec.ofChange tcpPutsWrong)

/-- 'harrierlaw07.TcpTells': WHATEVER THE INPUT: true; the input reads as it did. -/
def tcpTellsSpec : ChangeSpec := { name := "tcpTells", fn := fun _ => fun
  | [d1, d2] => { results := [.lit (.bool true)], args := [d1, d2] }
  | _ => none }
def tcpTellsRow : OpenClaim := { program := "ythbllfhaaidhjaa", sum := "4434d1b705019f1c7fe3aca4c647fc3e3d0793323d4a383bedcc128567e41817", func := "harrier/harrierlaw07.TcpTells", spec := "tcpTells", unfollowed := true, recurses := true, apart := false }
def TcpTellsSaid : Prop := tcpTellsRow.holds Try.pinned (OpenSpec.ofChange tcpTellsSpec)

/-- ITS FALSE NEIGHBOUR: 'it returns false'. Refute it at one input. -/
def tcpTellsWrong : ChangeSpec := { name := "tcpTells", fn := fun _ => fun
  | [d1, d2] => { results := [.lit (.bool false)], args := [d1, d2] }
  | _ => none }
def TcpTellsWrongFalsely : Prop := tcpTellsRow.holds Try.pinned (OpenSpec.ofChange tcpTellsWrong)

/-- 'harrierlaw07.TcpBack': WHATEVER THE INPUT: true; the input reads as it did. -/
def tcpBackSpec : ChangeSpec := { name := "tcpBack", fn := fun _ => fun
  | [d] => { results := [.lit (.bool true)], args := [d] }
  | _ => none }
def tcpBackRow : OpenClaim := { program := "ythbllfhaaidhjaa", sum := "4434d1b705019f1c7fe3aca4c647fc3e3d0793323d4a383bedcc128567e41817", func := "harrier/harrierlaw07.TcpBack", spec := "tcpBack", unfollowed := true, recurses := true, apart := false }
def TcpBackSaid : Prop := tcpBackRow.holds Try.pinned (OpenSpec.ofChange tcpBackSpec)

/-- ITS FALSE NEIGHBOUR: 'it returns false'. Refute it at one input. -/
def tcpBackWrong : ChangeSpec := { name := "tcpBack", fn := fun _ => fun
  | [d] => { results := [.lit (.bool false)], args := [d] }
  | _ => none }
def TcpBackWrongFalsely : Prop := tcpBackRow.holds Try.pinned (OpenSpec.ofChange tcpBackWrong)

/-- 'harrierlaw07.TcpParses': WHATEVER THE INPUT: true; the input reads as it did. -/
def tcpParsesSpec : ChangeSpec := { name := "tcpParses", fn := fun _ => fun
  | [d1, d2] => { results := [.lit (.bool true)], args := [d1, d2] }
  | _ => none }
def tcpParsesRow : OpenClaim := { program := "ythbllfhaaidhjaa", sum := "4434d1b705019f1c7fe3aca4c647fc3e3d0793323d4a383bedcc128567e41817", func := "harrier/harrierlaw07.TcpParses", spec := "tcpParses", unfollowed := true, recurses := true, apart := false }
def TcpParsesSaid : Prop := tcpParsesRow.holds Try.pinned (OpenSpec.ofChange tcpParsesSpec)

/-- ITS FALSE NEIGHBOUR: 'it returns false'. Refute it at one input. -/
def tcpParsesWrong : ChangeSpec := { name := "tcpParses", fn := fun _ => fun
  | [d1, d2] => { results := [.lit (.bool false)], args := [d1, d2] }
  | _ => none }
def TcpParsesWrongFalsely : Prop := tcpParsesRow.holds Try.pinned (OpenSpec.ofChange tcpParsesWrong)

/-- 'harrierlaw07.TcpSealed': WHATEVER THE INPUT: true; the input reads as it did. -/
def tcpSealedSpec : ChangeSpec := { name := "tcpSealed", fn := fun _ => fun
  | [d1, d2] => { results := [.lit (.bool true)], args := [d1, d2] }
  | _ => none }
def tcpSealedRow : OpenClaim := { program := "ythbllfhaaidhjaa", sum := "4434d1b705019f1c7fe3aca4c647fc3e3d0793323d4a383bedcc128567e41817", func := "harrier/harrierlaw07.TcpSealed", spec := "tcpSealed", unfollowed := true, recurses := true, apart := false }
def TcpSealedSaid : Prop := tcpSealedRow.holds Try.pinned (OpenSpec.ofChange tcpSealedSpec)

/-- ITS FALSE NEIGHBOUR: 'it returns false'. Refute it at one input. -/
def tcpSealedWrong : ChangeSpec := { name := "tcpSealed", fn := fun _ => fun
  | [d1, d2] => { results := [.lit (.bool false)], args := [d1, d2] }
  | _ => none }
def TcpSealedWrongFalsely : Prop := tcpSealedRow.holds Try.pinned (OpenSpec.ofChange tcpSealedWrong)

/- THE SECOND FORM. 'bulk': how many values and letters a reading holds, each counted each time it is reached (what is shared counts as often as it is met; a slice's spare places count too). A statement '..UptoSaid' is the law's where the arguments, and the package variables that the reading takes, are together of bulk at most 1048576: NARROWER than '..Said'. Prove '..Said' where nothing that the law and all that it calls make is longer than what came in: it says more and counts as full. Else prove '..UptoSaid'. A law counts once. -/
mutual
def uptoBulk {H : Type} : DataW H → Nat
  | .lit (.string bytes) => bytes.length + 1
  | .lit _ => 1
  | .nil => 1
  | .ptr d => uptoBulk d + 1
  | .slice elems spare => uptoBulkAll elems + uptoBulkAll spare + 1
  | .agg parts => uptoBulkAll parts + 1
  | .iface _ d => uptoBulk d + 1
  | .map entries => uptoBulkEntries entries + 1
  | .held _ => 1
def uptoBulkAll {H : Type} : List (DataW H) → Nat
  | [] => 0
  | d :: r => uptoBulk d + uptoBulkAll r
def uptoBulkEntries {H : Type} : List (Lit × DataW H) → Nat
  | [] => 0
  | x :: r => uptoBulkEntry x + uptoBulkEntries r
def uptoBulkEntry {H : Type} : Lit × DataW H → Nat
  | (.string bytes, d) => bytes.length + uptoBulk d + 1
  | (_, d) => uptoBulk d + 1
 end
def uptoSmall : (H : Type) → List (DataW H) → Bool := fun _ ds => decide (uptoBulkAll ds ≤ 1048576)
def OpenSpec.upto (s : _root_.Go.ChangeSpec) : _root_.Go.OpenSpec := { _root_.Go.OpenSpec.ofChange s with cond := some uptoSmall }

/-- 'harrierlaw08.IcmpPuts', WHERE WHAT IT READS IS OF BULK AT MOST 1048576: true; the input reads as it did. -/
def icmpPutsUptoRow : OpenClaim := { program := "ythbllfhaaidhjaa", sum := "4434d1b705019f1c7fe3aca4c647fc3e3d0793323d4a383bedcc128567e41817", func := "harrier/harrierlaw08.IcmpPuts", spec := "icmpPuts", unfollowed := true, recurses := true, apart := false, narrowed := true }
def IcmpPutsUptoSaid : Prop := icmpPutsUptoRow.holds Try.pinned (OpenSpec.upto icmpPutsSpec)

/-- 'harrierlaw08.IcmpMakes', WHERE WHAT IT READS IS OF BULK AT MOST 1048576: true; the input reads as it did. -/
def icmpMakesUptoRow : OpenClaim := { program := "ythbllfhaaidhjaa", sum := "4434d1b705019f1c7fe3aca4c647fc3e3d0793323d4a383bedcc128567e41817", func := "harrier/harrierlaw08.IcmpMakes", spec := "icmpMakes", unfollowed := true, recurses := true, apart := false, narrowed := true }
def IcmpMakesUptoSaid : Prop := icmpMakesUptoRow.holds Try.pinned (OpenSpec.upto icmpMakesSpec)

/-- 'harrierlaw06.ToptPuts', WHERE WHAT IT READS IS OF BULK AT MOST 1048576: true; the input reads as it did. -/
def toptPutsUptoRow : OpenClaim := { program := "ythbllfhaaidhjaa", sum := "4434d1b705019f1c7fe3aca4c647fc3e3d0793323d4a383bedcc128567e41817", func := "harrier/harrierlaw06.ToptPuts", spec := "toptPuts", unfollowed := true, recurses := true, apart := false, narrowed := true }
def ToptPutsUptoSaid : Prop := toptPutsUptoRow.holds Try.pinned (OpenSpec.upto toptPutsSpec)

/-- 'harrierlaw06.ToptParses', WHERE WHAT IT READS IS OF BULK AT MOST 1048576: true; the input reads as it did. -/
def toptParsesUptoRow : OpenClaim := { program := "ythbllfhaaidhjaa", sum := "4434d1b705019f1c7fe3aca4c647fc3e3d0793323d4a383bedcc128567e41817", func := "harrier/harrierlaw06.ToptParses", spec := "toptParses", unfollowed := true, recurses := true, apart := false, narrowed := true }
def ToptParsesUptoSaid : Prop := toptParsesUptoRow.holds Try.pinned (OpenSpec.upto toptParsesSpec)

/-- 'harrierlaw06.ToptBack', WHERE WHAT IT READS IS OF BULK AT MOST 1048576: true; the input reads as it did. -/
def toptBackUptoRow : OpenClaim := { program := "ythbllfhaaidhjaa", sum := "4434d1b705019f1c7fe3aca4c647fc3e3d0793323d4a383bedcc128567e41817", func := "harrier/harrierlaw06.ToptBack", spec := "toptBack", unfollowed := true, recurses := true, apart := false, narrowed := true }
def ToptBackUptoSaid : Prop := toptBackUptoRow.holds Try.pinned (OpenSpec.upto toptBackSpec)

/-- 'harrierlaw08.IcmpParses', WHERE WHAT IT READS IS OF BULK AT MOST 1048576: true; the input reads as it did. -/
def icmpParsesUptoRow : OpenClaim := { program := "ythbllfhaaidhjaa", sum := "4434d1b705019f1c7fe3aca4c647fc3e3d0793323d4a383bedcc128567e41817", func := "harrier/harrierlaw08.IcmpParses", spec := "icmpParses", unfollowed := true, recurses := true, apart := false, narrowed := true }
def IcmpParsesUptoSaid : Prop := icmpParsesUptoRow.holds Try.pinned (OpenSpec.upto icmpParsesSpec)

/-- 'harrierlaw08.IcmpBack', WHERE WHAT IT READS IS OF BULK AT MOST 1048576: true; the input reads as it did. -/
def icmpBackUptoRow : OpenClaim := { program := "ythbllfhaaidhjaa", sum := "4434d1b705019f1c7fe3aca4c647fc3e3d0793323d4a383bedcc128567e41817", func := "harrier/harrierlaw08.IcmpBack", spec := "icmpBack", unfollowed := true, recurses := true, apart := false, narrowed := true }
def IcmpBackUptoSaid : Prop := icmpBackUptoRow.holds Try.pinned (OpenSpec.upto icmpBackSpec)

/-- 'harrierlaw06.ToptFinds', WHERE WHAT IT READS IS OF BULK AT MOST 1048576: true; the input reads as it did. -/
def toptFindsUptoRow : OpenClaim := { program := "ythbllfhaaidhjaa", sum := "4434d1b705019f1c7fe3aca4c647fc3e3d0793323d4a383bedcc128567e41817", func := "harrier/harrierlaw06.ToptFinds", spec := "toptFinds", unfollowed := true, recurses := true, apart := false, narrowed := true }
def ToptFindsUptoSaid : Prop := toptFindsUptoRow.holds Try.pinned (OpenSpec.upto toptFindsSpec)

/-- 'harrierlaw10.SrhPuts', WHERE WHAT IT READS IS OF BULK AT MOST 1048576: true; the input reads as it did. -/
def srhPutsUptoRow : OpenClaim := { program := "ythbllfhaaidhjaa", sum := "4434d1b705019f1c7fe3aca4c647fc3e3d0793323d4a383bedcc128567e41817", func := "harrier/harrierlaw10.SrhPuts", spec := "srhPuts", apart := false, narrowed := true }
def SrhPutsUptoSaid : Prop := srhPutsUptoRow.holds Try.pinned (OpenSpec.upto srhPutsSpec)

/-- 'harrierlaw10.SrhParses', WHERE WHAT IT READS IS OF BULK AT MOST 1048576: true; the input reads as it did. -/
def srhParsesUptoRow : OpenClaim := { program := "ythbllfhaaidhjaa", sum := "4434d1b705019f1c7fe3aca4c647fc3e3d0793323d4a383bedcc128567e41817", func := "harrier/harrierlaw10.SrhParses", spec := "srhParses", apart := false, narrowed := true }
def SrhParsesUptoSaid : Prop := srhParsesUptoRow.holds Try.pinned (OpenSpec.upto srhParsesSpec)

/-- 'harrierlaw10.SrhBack', WHERE WHAT IT READS IS OF BULK AT MOST 1048576: true; the input reads as it did. -/
def srhBackUptoRow : OpenClaim := { program := "ythbllfhaaidhjaa", sum := "4434d1b705019f1c7fe3aca4c647fc3e3d0793323d4a383bedcc128567e41817", func := "harrier/harrierlaw10.SrhBack", spec := "srhBack", apart := false, narrowed := true }
def SrhBackUptoSaid : Prop := srhBackUptoRow.holds Try.pinned (OpenSpec.upto srhBackSpec)

/-- 'harrierlaw10.SrhTells', WHERE WHAT IT READS IS OF BULK AT MOST 1048576: true; the input reads as it did. -/
def srhTellsUptoRow : OpenClaim := { program := "ythbllfhaaidhjaa", sum := "4434d1b705019f1c7fe3aca4c647fc3e3d0793323d4a383bedcc128567e41817", func := "harrier/harrierlaw10.SrhTells", spec := "srhTells", apart := false, narrowed := true }
def SrhTellsUptoSaid : Prop := srhTellsUptoRow.holds Try.pinned (OpenSpec.upto srhTellsSpec)

/-- 'harrierlaw07.TcpPuts', WHERE WHAT IT READS IS OF BULK AT MOST 1048576: true; the input reads as it did. -/
def tcpPutsUptoRow : OpenClaim := { program := "ythbllfhaaidhjaa", sum := "4434d1b705019f1c7fe3aca4c647fc3e3d0793323d4a383bedcc128567e41817", func := "harrier/harrierlaw07.TcpPuts", spec := "tcpPuts", unfollowed := true, recurses := true, apart := false, narrowed := true }
def TcpPutsUptoSaid : Prop := tcpPutsUptoRow.holds Try.pinned (OpenSpec.upto tcpPutsSpec)

/-- 'harrierlaw07.TcpTells', WHERE WHAT IT READS IS OF BULK AT MOST 1048576: true; the input reads as it did. -/
def tcpTellsUptoRow : OpenClaim := { program := "ythbllfhaaidhjaa", sum := "4434d1b705019f1c7fe3aca4c647fc3e3d0793323d4a383bedcc128567e41817", func := "harrier/harrierlaw07.TcpTells", spec := "tcpTells", unfollowed := true, recurses := true, apart := false, narrowed := true }
def TcpTellsUptoSaid : Prop := tcpTellsUptoRow.holds Try.pinned (OpenSpec.upto tcpTellsSpec)

/-- 'harrierlaw07.TcpBack', WHERE WHAT IT READS IS OF BULK AT MOST 1048576: true; the input reads as it did. -/
def tcpBackUptoRow : OpenClaim := { program := "ythbllfhaaidhjaa", sum := "4434d1b705019f1c7fe3aca4c647fc3e3d0793323d4a383bedcc128567e41817", func := "harrier/harrierlaw07.TcpBack", spec := "tcpBack", unfollowed := true, recurses := true, apart := false, narrowed := true }
def TcpBackUptoSaid : Prop := tcpBackUptoRow.holds Try.pinned (OpenSpec.upto tcpBackSpec)

/-- 'harrierlaw07.TcpParses', WHERE WHAT IT READS IS OF BULK AT MOST 1048576: true; the input reads as it did. -/
def tcpParsesUptoRow : OpenClaim := { program := "ythbllfhaaidhjaa", sum := "4434d1b705019f1c7fe3aca4c647fc3e3d0793323d4a383bedcc128567e41817", func := "harrier/harrierlaw07.TcpParses", spec := "tcpParses", unfollowed := true, recurses := true, apart := false, narrowed := true }
def TcpParsesUptoSaid : Prop := tcpParsesUptoRow.holds Try.pinned (OpenSpec.upto tcpParsesSpec)

/-- 'harrierlaw07.TcpSealed', WHERE WHAT IT READS IS OF BULK AT MOST 1048576: true; the input reads as it did. -/
def tcpSealedUptoRow : OpenClaim := { program := "ythbllfhaaidhjaa", sum := "4434d1b705019f1c7fe3aca4c647fc3e3d0793323d4a383bedcc128567e41817", func := "harrier/harrierlaw07.TcpSealed", spec := "tcpSealed", unfollowed := true, recurses := true, apart := false, narrowed := true }
def TcpSealedUptoSaid : Prop := tcpSealedUptoRow.holds Try.pinned (OpenSpec.upto tcpSealedSpec)

end Rows
end Go.Proofs.Ythbllfhaaidhjaa
