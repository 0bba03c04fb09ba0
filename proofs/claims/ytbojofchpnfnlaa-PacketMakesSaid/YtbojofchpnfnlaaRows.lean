/-
  No cell of these rows narrows 'for every input' (looked for: loops, veiled, ifaces, maps, wideKeys, modest, calm, conditions, laid).
  DERIVED. THE GIVEN ROWS OF THIS SEAT. 13 by the template 'for every input the law returns true; each argument reads behind the call as it read before'; 0 by the template 'total and deterministic' (their statements: YtbojofchpnfnlaaTotals.lean).
  GIVEN WITH THE SEED: the statements are not yours to turn. If you find one false, say at which input.
  Laid BY PROGRAM, IN A SANDBOX (cutbox-rows.mjs): the forced cells as the released guide's own fill.sh prints them over the translation 32fd3b8b55dfdfdd… (all of the seat's roots in one cut). By AI agents, Wed Nov 11 2026. No macro, syntax, notation, axiom, sorry.
-/
import Derived.Test.YtbojofchpnfnlaaChecked
import GoSem.Claim
import GoSem.ClaimJoined
import GoSem.ClaimMapViews
import Derived.JoinedTies
import Derived.KernelRfl
namespace Go.Proofs.Ytbojofchpnfnlaa
/- THE CELL 'sum', in the pinned program and in every row, IS THE sha256 OF THE DUMP (.gsa) THAT YtbojofchpnfnlaaProg.lean LOADS. Nothing in Lean hashes anything: it is a label: what it is worth is what the hold of that sum in a sandbox is worth. -/
noncomputable def Try.pinned : Pinned := { name := "ytbojofchpnfnlaa", sum := "32fd3b8b55dfdfdd809045992640ab062f1977934c19b7f70b16f2ed3ed1551d", checked := Try.checked }
namespace Rows
def none {H : Type} : Left H := { results := [], args := [] }

/-- 'harrierlaw07.TcpPuts': WHATEVER THE INPUT: true; the input reads as it did. -/
def tcpPutsSpec : ChangeSpec := { name := "tcpPuts", fn := fun _ => fun
  | [d] => { results := [.lit (.bool true)], args := [d] }
  | _ => none }
def tcpPutsRow : OpenClaim := { program := "ytbojofchpnfnlaa", sum := "32fd3b8b55dfdfdd809045992640ab062f1977934c19b7f70b16f2ed3ed1551d", func := "harrier/harrierlaw07.TcpPuts", spec := "tcpPuts", unfollowed := true, recurses := true, apart := false }
def TcpPutsSaid : Prop := tcpPutsRow.holds Try.pinned (OpenSpec.ofChange tcpPutsSpec)

/-- ITS FALSE NEIGHBOUR: 'it returns false'. Refute it at one input. -/
def tcpPutsWrong : ChangeSpec := { name := "tcpPuts", fn := fun _ => fun
  | [d] => { results := [.lit (.bool false)], args := [d] }
  | _ => none }
def TcpPutsWrongFalsely : Prop := tcpPutsRow.holds Try.pinned (OpenSpec.ofChange tcpPutsWrong)

/-- 'harrierlaw07.TcpTells': WHATEVER THE INPUT: true; the input reads as it did. -/
def tcpTellsSpec : ChangeSpec := { name := "tcpTells", fn := fun _ => fun
  | [d1, d2] => { results := [.lit (.bool true)], args := [d1, d2] }
  | _ => none }
def tcpTellsRow : OpenClaim := { program := "ytbojofchpnfnlaa", sum := "32fd3b8b55dfdfdd809045992640ab062f1977934c19b7f70b16f2ed3ed1551d", func := "harrier/harrierlaw07.TcpTells", spec := "tcpTells", unfollowed := true, recurses := true, apart := false }
def TcpTellsSaid : Prop := tcpTellsRow.holds Try.pinned (OpenSpec.ofChange tcpTellsSpec)

/-- ITS FALSE NEIGHBOUR: 'it returns false'. Refute it at one input. -/
def tcpTellsWrong : ChangeSpec := { name := "tcpTells", fn := fun _ => fun
  | [d1, d2] => { results := [.lit (.bool false)], args := [d1, d2] }
  | _ => none }
def TcpTellsWrongFalsely : Prop := tcpTellsRow.holds Try.pinned (OpenSpec.ofChange tcpTellsWrong)

/-- 'harrierlaw07.TcpBack': WHATEVER THE INPUT: true; the input reads as it did. -/
def tcpBackSpec : ChangeSpec := { name := "tcpBack", fn := fun _ => fun
  | [d] => { results := [.lit (.bool true)], args := [d] }
  | _ => none }
def tcpBackRow : OpenClaim := { program := "ytbojofchpnfnlaa", sum := "32fd3b8b55dfdfdd809045992640ab062f1977934c19b7f70b16f2ed3ed1551d", func := "harrier/harrierlaw07.TcpBack", spec := "tcpBack", unfollowed := true, recurses := true, apart := false }
def TcpBackSaid : Prop := tcpBackRow.holds Try.pinned (OpenSpec.ofChange tcpBackSpec)

/-- ITS FALSE NEIGHBOUR: 'it returns false'. Refute it at one input. -/
def tcpBackWrong : ChangeSpec := { name := "tcpBack", fn := fun _ => fun
  | [d] => { results := [.lit (.bool false)], args := [d] }
  | _ => none }
def TcpBackWrongFalsely : Prop := tcpBackRow.holds Try.pinned (OpenSpec.ofChange tcpBackWrong)

/-- 'harrierlaw07.TcpParses': WHATEVER THE INPUT: true; the input reads as it did. -/
def tcpParsesSpec : ChangeSpec := { name := "tcpParses", fn := fun _ => fun
  | [d1, d2] => { results := [.lit (.bool true)], args := [d1, d2] }
  | _ => none }
def tcpParsesRow : OpenClaim := { program := "ytbojofchpnfnlaa", sum := "32fd3b8b55dfdfdd809045992640ab062f1977934c19b7f70b16f2ed3ed1551d", func := "harrier/harrierlaw07.TcpParses", spec := "tcpParses", unfollowed := true, recurses := true, apart := false }
def TcpParsesSaid : Prop := tcpParsesRow.holds Try.pinned (OpenSpec.ofChange tcpParsesSpec)

/-- ITS FALSE NEIGHBOUR: 'it returns false'. Refute it at one input. -/
def tcpParsesWrong : ChangeSpec := { name := "tcpParses", fn := fun _ => fun
  | [d1, d2] => { results := [.lit (.bool false)], args := [d1, d2] }
  | _ => none }
def TcpParsesWrongFalsely : Prop := tcpParsesRow.holds Try.pinned (OpenSpec.ofChange tcpParsesWrong)

/-- 'harrierlaw07.TcpSealed': WHATEVER THE INPUT: true; the input reads as it did. -/
def tcpSealedSpec : ChangeSpec := { name := "tcpSealed", fn := fun _ => fun
  | [d1, d2] => { results := [.lit (.bool true)], args := [d1, d2] }
  | _ => none }
def tcpSealedRow : OpenClaim := { program := "ytbojofchpnfnlaa", sum := "32fd3b8b55dfdfdd809045992640ab062f1977934c19b7f70b16f2ed3ed1551d", func := "harrier/harrierlaw07.TcpSealed", spec := "tcpSealed", unfollowed := true, recurses := true, apart := false }
def TcpSealedSaid : Prop := tcpSealedRow.holds Try.pinned (OpenSpec.ofChange tcpSealedSpec)

/-- ITS FALSE NEIGHBOUR: 'it returns false'. Refute it at one input. -/
def tcpSealedWrong : ChangeSpec := { name := "tcpSealed", fn := fun _ => fun
  | [d1, d2] => { results := [.lit (.bool false)], args := [d1, d2] }
  | _ => none }
def TcpSealedWrongFalsely : Prop := tcpSealedRow.holds Try.pinned (OpenSpec.ofChange tcpSealedWrong)

/-- 'harrierlaw11.DetourInserts': WHATEVER THE INPUT: true; the input reads as it did. -/
def detourInsertsSpec : ChangeSpec := { name := "detourInserts", fn := fun _ => fun
  | [d1, d2, d3] => { results := [.lit (.bool true)], args := [d1, d2, d3] }
  | _ => none }
def detourInsertsRow : OpenClaim := { program := "ytbojofchpnfnlaa", sum := "32fd3b8b55dfdfdd809045992640ab062f1977934c19b7f70b16f2ed3ed1551d", func := "harrier/harrierlaw11.DetourInserts", spec := "detourInserts", unfollowed := true, recurses := true, apart := false }
def DetourInsertsSaid : Prop := detourInsertsRow.holds Try.pinned (OpenSpec.ofChange detourInsertsSpec)

/-- ITS FALSE NEIGHBOUR: 'it returns false'. Refute it at one input. -/
def detourInsertsWrong : ChangeSpec := { name := "detourInserts", fn := fun _ => fun
  | [d1, d2, d3] => { results := [.lit (.bool false)], args := [d1, d2, d3] }
  | _ => none }
def DetourInsertsWrongFalsely : Prop := detourInsertsRow.holds Try.pinned (OpenSpec.ofChange detourInsertsWrong)

/-- 'harrierlaw11.DetourBack': WHATEVER THE INPUT: true; the input reads as it did. -/
def detourBackSpec : ChangeSpec := { name := "detourBack", fn := fun _ => fun
  | [d1, d2] => { results := [.lit (.bool true)], args := [d1, d2] }
  | _ => none }
def detourBackRow : OpenClaim := { program := "ytbojofchpnfnlaa", sum := "32fd3b8b55dfdfdd809045992640ab062f1977934c19b7f70b16f2ed3ed1551d", func := "harrier/harrierlaw11.DetourBack", spec := "detourBack", unfollowed := true, recurses := true, apart := false }
def DetourBackSaid : Prop := detourBackRow.holds Try.pinned (OpenSpec.ofChange detourBackSpec)

/-- ITS FALSE NEIGHBOUR: 'it returns false'. Refute it at one input. -/
def detourBackWrong : ChangeSpec := { name := "detourBack", fn := fun _ => fun
  | [d1, d2] => { results := [.lit (.bool false)], args := [d1, d2] }
  | _ => none }
def DetourBackWrongFalsely : Prop := detourBackRow.holds Try.pinned (OpenSpec.ofChange detourBackWrong)

/-- 'harrierlaw11.DetourTakes': WHATEVER THE INPUT: true; the input reads as it did. -/
def detourTakesSpec : ChangeSpec := { name := "detourTakes", fn := fun _ => fun
  | [d] => { results := [.lit (.bool true)], args := [d] }
  | _ => none }
def detourTakesRow : OpenClaim := { program := "ytbojofchpnfnlaa", sum := "32fd3b8b55dfdfdd809045992640ab062f1977934c19b7f70b16f2ed3ed1551d", func := "harrier/harrierlaw11.DetourTakes", spec := "detourTakes", unfollowed := true, recurses := true, apart := false }
def DetourTakesSaid : Prop := detourTakesRow.holds Try.pinned (OpenSpec.ofChange detourTakesSpec)

/-- ITS FALSE NEIGHBOUR: 'it returns false'. Refute it at one input. -/
def detourTakesWrong : ChangeSpec := { name := "detourTakes", fn := fun _ => fun
  | [d] => { results := [.lit (.bool false)], args := [d] }
  | _ => none }
def DetourTakesWrongFalsely : Prop := detourTakesRow.holds Try.pinned (OpenSpec.ofChange detourTakesWrong)

/-- 'harrierlaw11.DetourGoes': WHATEVER THE INPUT: true; the input reads as it did. -/
def detourGoesSpec : ChangeSpec := { name := "detourGoes", fn := fun _ => fun
  | [d1, d2] => { results := [.lit (.bool true)], args := [d1, d2] }
  | _ => none }
def detourGoesRow : OpenClaim := { program := "ytbojofchpnfnlaa", sum := "32fd3b8b55dfdfdd809045992640ab062f1977934c19b7f70b16f2ed3ed1551d", func := "harrier/harrierlaw11.DetourGoes", spec := "detourGoes", unfollowed := true, recurses := true, apart := false }
def DetourGoesSaid : Prop := detourGoesRow.holds Try.pinned (OpenSpec.ofChange detourGoesSpec)

/-- ITS FALSE NEIGHBOUR: 'it returns false'. Refute it at one input. -/
def detourGoesWrong : ChangeSpec := { name := "detourGoes", fn := fun _ => fun
  | [d1, d2] => { results := [.lit (.bool false)], args := [d1, d2] }
  | _ => none }
def DetourGoesWrongFalsely : Prop := detourGoesRow.holds Try.pinned (OpenSpec.ofChange detourGoesWrong)

/-- 'harrierlaw38.SteerTells': WHATEVER THE INPUT: true; the input reads as it did. -/
def steerTellsSpec : ChangeSpec := { name := "steerTells", fn := fun _ => fun
  | [d1, d2] => { results := [.lit (.bool true)], args := [d1, d2] }
  | _ => none }
def steerTellsRow : OpenClaim := { program := "ytbojofchpnfnlaa", sum := "32fd3b8b55dfdfdd809045992640ab062f1977934c19b7f70b16f2ed3ed1551d", func := "harrier/harrierlaw38.SteerTells", spec := "steerTells", unfollowed := true, recurses := true, apart := false }
def SteerTellsSaid : Prop := steerTellsRow.holds Try.pinned (OpenSpec.ofChange steerTellsSpec)

/-- ITS FALSE NEIGHBOUR: 'it returns false'. Refute it at one input. -/
def steerTellsWrong : ChangeSpec := { name := "steerTells", fn := fun _ => fun
  | [d1, d2] => { results := [.lit (.bool false)], args := [d1, d2] }
  | _ => none }
def SteerTellsWrongFalsely : Prop := steerTellsRow.holds Try.pinned (OpenSpec.ofChange steerTellsWrong)

/-- 'harrierlaw38.SteerWhole': WHATEVER THE INPUT: true; the input reads as it did. -/
def steerWholeSpec : ChangeSpec := { name := "steerWhole", fn := fun _ => fun
  | [d1, d2] => { results := [.lit (.bool true)], args := [d1, d2] }
  | _ => none }
def steerWholeRow : OpenClaim := { program := "ytbojofchpnfnlaa", sum := "32fd3b8b55dfdfdd809045992640ab062f1977934c19b7f70b16f2ed3ed1551d", func := "harrier/harrierlaw38.SteerWhole", spec := "steerWhole", unfollowed := true, recurses := true, apart := false }
def SteerWholeSaid : Prop := steerWholeRow.holds Try.pinned (OpenSpec.ofChange steerWholeSpec)

/-- ITS FALSE NEIGHBOUR: 'it returns false'. Refute it at one input. -/
def steerWholeWrong : ChangeSpec := { name := "steerWhole", fn := fun _ => fun
  | [d1, d2] => { results := [.lit (.bool false)], args := [d1, d2] }
  | _ => none }
def SteerWholeWrongFalsely : Prop := steerWholeRow.holds Try.pinned (OpenSpec.ofChange steerWholeWrong)

/-- 'harrierlaw13.PacketMakes': WHATEVER THE INPUT: true; the input reads as it did. -/
def packetMakesSpec : ChangeSpec := { name := "packetMakes", fn := fun _ => fun
  | [d1, d2, d3] => { results := [.lit (.bool true)], args := [d1, d2, d3] }
  | _ => none }
def packetMakesRow : OpenClaim := { program := "ytbojofchpnfnlaa", sum := "32fd3b8b55dfdfdd809045992640ab062f1977934c19b7f70b16f2ed3ed1551d", func := "harrier/harrierlaw13.PacketMakes", spec := "packetMakes", unfollowed := true, recurses := true, apart := false }
def PacketMakesSaid : Prop := packetMakesRow.holds Try.pinned (OpenSpec.ofChange packetMakesSpec)

/-- ITS FALSE NEIGHBOUR: 'it returns false'. Refute it at one input. -/
def packetMakesWrong : ChangeSpec := { name := "packetMakes", fn := fun _ => fun
  | [d1, d2, d3] => { results := [.lit (.bool false)], args := [d1, d2, d3] }
  | _ => none }
def PacketMakesWrongFalsely : Prop := packetMakesRow.holds Try.pinned (OpenSpec.ofChange packetMakesWrong)

/-- 'harrierlaw13.PacketBack': WHATEVER THE INPUT: true; the input reads as it did. -/
def packetBackSpec : ChangeSpec := { name := "packetBack", fn := fun _ => fun
  | [d1, d2, d3] => { results := [.lit (.bool true)], args := [d1, d2, d3] }
  | _ => none }
def packetBackRow : OpenClaim := { program := "ytbojofchpnfnlaa", sum := "32fd3b8b55dfdfdd809045992640ab062f1977934c19b7f70b16f2ed3ed1551d", func := "harrier/harrierlaw13.PacketBack", spec := "packetBack", unfollowed := true, recurses := true, apart := false }
def PacketBackSaid : Prop := packetBackRow.holds Try.pinned (OpenSpec.ofChange packetBackSpec)

/-- ITS FALSE NEIGHBOUR: 'it returns false'. Refute it at one input. -/
def packetBackWrong : ChangeSpec := { name := "packetBack", fn := fun _ => fun
  | [d1, d2, d3] => { results := [.lit (.bool false)], args := [d1, d2, d3] }
  | _ => none }
def PacketBackWrongFalsely : Prop := packetBackRow.holds Try.pinned (OpenSpec.ofChange packetBackWrong)

/- THE SECOND FORM. 'bulk': how many values and letters a reading holds, each counted each time it is reached (what is shared counts as often as it is met; a slice's spare places count too). A statement '..UptoSaid' is the law's where the arguments, and the package variables that the reading takes, are together of bulk at most 1048576: NARROWER than '..Said'. Prove '..Said' where nothing that the law and all that it calls make is longer than what came in: it says more and counts as full. Else prove '..UptoSaid'. A law counts once. -/
mutual
def uptoBulk {H : Type} : DataW H → Nat
  | .lit (.string bytes) => bytes.length + 1
  | .lit _ => 1
  | .nil => 1
  | .ptr d => uptoBulk d + 1
  | .slice elems spare => uptoBulkAll elems + uptoBulkAll spare + 1
  | .agg parts => uptoBulkAll parts + 1
  | .iface _ d => uptoBulk d + 1
  | .map entries => uptoBulkEntries entries + 1
  | .held _ => 1
def uptoBulkAll {H : Type} : List (DataW H) → Nat
  | [] => 0
  | d :: r => uptoBulk d + uptoBulkAll r
def uptoBulkEntries {H : Type} : List (Lit × DataW H) → Nat
  | [] => 0
  | x :: r => uptoBulkEntry x + uptoBulkEntries r
def uptoBulkEntry {H : Type} : Lit × DataW H → Nat
  | (.string bytes, d) => bytes.length + uptoBulk d + 1
  | (_, d) => uptoBulk d + 1
 end
def uptoSmall : (H : Type) → List (DataW H) → Bool := fun _ ds => decide (uptoBulkAll ds ≤ 1048576)
def OpenSpec.upto (s : _root_.Go.ChangeSpec) : _root_.Go.OpenSpec := { _root_.Go.OpenSpec.ofChange s with cond := some uptoSmall }

/-- 'harrierlaw07.TcpPuts', WHERE WHAT IT READS IS OF BULK AT MOST 1048576: true; the input reads as it did. -/
def tcpPutsUptoRow : OpenClaim := { program := "ytbojofchpnfnlaa", sum := "32fd3b8b55dfdfdd809045992640ab062f1977934c19b7f70b16f2ed3ed1551d", func := "harrier/harrierlaw07.TcpPuts", spec := "tcpPuts", unfollowed := true, recurses := true, apart := false, narrowed := true }
def TcpPutsUptoSaid : Prop := tcpPutsUptoRow.holds Try.pinned (OpenSpec.upto tcpPutsSpec)

/-- 'harrierlaw07.TcpTells', WHERE WHAT IT READS IS OF BULK AT MOST 1048576: true; the input reads as it did. -/
def tcpTellsUptoRow : OpenClaim := { program := "ytbojofchpnfnlaa", sum := "32fd3b8b55dfdfdd809045992640ab062f1977934c19b7f70b16f2ed3ed1551d", func := "harrier/harrierlaw07.TcpTells", spec := "tcpTells", unfollowed := true, recurses := true, apart := false, narrowed := true }
def TcpTellsUptoSaid : Prop := tcpTellsUptoRow.holds Try.pinned (OpenSpec.upto tcpTellsSpec)

/-- 'harrierlaw07.TcpBack', WHERE WHAT IT READS IS OF BULK AT MOST 1048576: true; the input reads as it did. -/
def tcpBackUptoRow : OpenClaim := { program := "ytbojofchpnfnlaa", sum := "32fd3b8b55dfdfdd809045992640ab062f1977934c19b7f70b16f2ed3ed1551d", func := "harrier/harrierlaw07.TcpBack", spec := "tcpBack", unfollowed := true, recurses := true, apart := false, narrowed := true }
def TcpBackUptoSaid : Prop := tcpBackUptoRow.holds Try.pinned (OpenSpec.upto tcpBackSpec)

/-- 'harrierlaw07.TcpParses', WHERE WHAT IT READS IS OF BULK AT MOST 1048576: true; the input reads as it did. -/
def tcpParsesUptoRow : OpenClaim := { program := "ytbojofchpnfnlaa", sum := "32fd3b8b55dfdfdd809045992640ab062f1977934c19b7f70b16f2ed3ed1551d", func := "harrier/harrierlaw07.TcpParses", spec := "tcpParses", unfollowed := true, recurses := true, apart := false, narrowed := true }
def TcpParsesUptoSaid : Prop := tcpParsesUptoRow.holds Try.pinned (OpenSpec.upto tcpParsesSpec)

/-- 'harrierlaw07.TcpSealed', WHERE WHAT IT READS IS OF BULK AT MOST 1048576: true; the input reads as it did. -/
def tcpSealedUptoRow : OpenClaim := { program := "ytbojofchpnfnlaa", sum := "32fd3b8b55dfdfdd809045992640ab062f1977934c19b7f70b16f2ed3ed1551d", func := "harrier/harrierlaw07.TcpSealed", spec := "tcpSealed", unfollowed := true, recurses := true, apart := false, narrowed := true }
def TcpSealedUptoSaid : Prop := tcpSealedUptoRow.holds Try.pinned (OpenSpec.upto tcpSealedSpec)

/-- 'harrierlaw11.DetourInserts', WHERE WHAT IT READS IS OF BULK AT MOST 1048576: true; the input reads as it did. -/
def detourInsertsUptoRow : OpenClaim := { program := "ytbojofchpnfnlaa", sum := "32fd3b8b55dfdfdd809045992640ab062f1977934c19b7f70b16f2ed3ed1551d", func := "harrier/harrierlaw11.DetourInserts", spec := "detourInserts", unfollowed := true, recurses := true, apart := false, narrowed := true }
def DetourInsertsUptoSaid : Prop := detourInsertsUptoRow.holds Try.pinned (OpenSpec.upto detourInsertsSpec)

/-- 'harrierlaw11.DetourBack', WHERE WHAT IT READS IS OF BULK AT MOST 1048576: true; the input reads as it did. -/
def detourBackUptoRow : OpenClaim := { program := "ytbojofchpnfnlaa", sum := "32fd3b8b55dfdfdd809045992640ab062f1977934c19b7f70b16f2ed3ed1551d", func := "harrier/harrierlaw11.DetourBack", spec := "detourBack", unfollowed := true, recurses := true, apart := false, narrowed := true }
def DetourBackUptoSaid : Prop := detourBackUptoRow.holds Try.pinned (OpenSpec.upto detourBackSpec)

/-- 'harrierlaw11.DetourTakes', WHERE WHAT IT READS IS OF BULK AT MOST 1048576: true; the input reads as it did. -/
def detourTakesUptoRow : OpenClaim := { program := "ytbojofchpnfnlaa", sum := "32fd3b8b55dfdfdd809045992640ab062f1977934c19b7f70b16f2ed3ed1551d", func := "harrier/harrierlaw11.DetourTakes", spec := "detourTakes", unfollowed := true, recurses := true, apart := false, narrowed := true }
def DetourTakesUptoSaid : Prop := detourTakesUptoRow.holds Try.pinned (OpenSpec.upto detourTakesSpec)

/-- 'harrierlaw11.DetourGoes', WHERE WHAT IT READS IS OF BULK AT MOST 1048576: true; the input reads as it did. -/
def detourGoesUptoRow : OpenClaim := { program := "ytbojofchpnfnlaa", sum := "32fd3b8b55dfdfdd809045992640ab062f1977934c19b7f70b16f2ed3ed1551d", func := "harrier/harrierlaw11.DetourGoes", spec := "detourGoes", unfollowed := true, recurses := true, apart := false, narrowed := true }
def DetourGoesUptoSaid : Prop := detourGoesUptoRow.holds Try.pinned (OpenSpec.upto detourGoesSpec)

/-- 'harrierlaw38.SteerTells', WHERE WHAT IT READS IS OF BULK AT MOST 1048576: true; the input reads as it did. -/
def steerTellsUptoRow : OpenClaim := { program := "ytbojofchpnfnlaa", sum := "32fd3b8b55dfdfdd809045992640ab062f1977934c19b7f70b16f2ed3ed1551d", func := "harrier/harrierlaw38.SteerTells", spec := "steerTells", unfollowed := true, recurses := true, apart := false, narrowed := true }
def SteerTellsUptoSaid : Prop := steerTellsUptoRow.holds Try.pinned (OpenSpec.upto steerTellsSpec)

/-- 'harrierlaw38.SteerWhole', WHERE WHAT IT READS IS OF BULK AT MOST 1048576: true; the input reads as it did. -/
def steerWholeUptoRow : OpenClaim := { program := "ytbojofchpnfnlaa", sum := "32fd3b8b55dfdfdd809045992640ab062f1977934c19b7f70b16f2ed3ed1551d", func := "harrier/harrierlaw38.SteerWhole", spec := "steerWhole", unfollowed := true, recurses := true, apart := false, narrowed := true }
def SteerWholeUptoSaid : Prop := steerWholeUptoRow.holds Try.pinned (OpenSpec.upto steerWholeSpec)

/-- 'harrierlaw13.PacketMakes', WHERE WHAT IT READS IS OF BULK AT MOST 1048576: true; the input reads as it did. -/
def packetMakesUptoRow : OpenClaim := { program := "ytbojofchpnfnlaa", sum := "32fd3b8b55dfdfdd809045992640ab062f1977934c19b7f70b16f2ed3ed1551d", func := "harrier/harrierlaw13.PacketMakes", spec := "packetMakes", unfollowed := true, recurses := true, apart := false, narrowed := true }
def PacketMakesUptoSaid : Prop := packetMakesUptoRow.holds Try.pinned (OpenSpec.upto packetMakesSpec)

/-- 'harrierlaw13.PacketBack', WHERE WHAT IT READS IS OF BULK AT MOST 1048576: true; the input reads as it did. -/
def packetBackUptoRow : OpenClaim := { program := "ytbojofchpnfnlaa", sum := "32fd3b8b55dfdfdd809045992640ab062f1977934c19b7f70b16f2ed3ed1551d", func := "harrier/harrierlaw13.PacketBack", spec := "packetBack", unfollowed := true, recurses := true, apart := false, narrowed := true }
def PacketBackUptoSaid : Prop := packetBackUptoRow.holds Try.pinned (OpenSpec.upto packetBackSpec)

end Rows
end Go.Proofs.Ytbojofchpnfnlaa
