/-
  No cell of these rows narrows 'for every input' (looked for: loops, veiled, ifaces, maps, wideKeys, modest, calm, conditions, laid).
  DERIVED. THE GIVEN ROWS OF THIS SEAT. 4 by the template 'for every input the law returns true; each argument reads behind the call as it read before'; 0 by the template 'total and deterministic' (their statements: YtfhljcbbgckdiaaGreatTotals.lean).
  GIVEN WITH THE SEED: the statements are not yours to turn. If you find one false, say at which input.
  Laid BY PROGRAM, IN A SANDBOX (cutbox-rows.mjs): the forced cells as the released guide's own fill.sh prints them over the translation 35cf91a9415f8587… (all of the seat's roots in one cut). By AI agents, Wed Nov 11 2026. No macro, syntax, notation, axiom, sorry.
-/
import Derived.Test.YtfhljcbbgckdiaaGreatChecked
import GoSem.Claim
import GoSem.ClaimJoined
import GoSem.ClaimMapViews
import Derived.JoinedTies
import Derived.KernelRfl
namespace Go.Proofs.YtfhljcbbgckdiaaGreat
/- THE CELL 'sum', in the pinned program and in every row, IS THE sha256 OF THE DUMP (.gsa) THAT YtfhljcbbgckdiaaGreatProg.lean LOADS. Nothing in Lean hashes anything: it is a label: what it is worth is what the hold of that sum in a sandbox is worth. -/
noncomputable def Tryz.pinned : Pinned := { name := "ytfhljcbbgckdiaagreat", sum := "35cf91a9415f8587fc7eabe5e2bd9a6ef2a1f8315c61ccfdbbeb13de2fa93801", checked := Tryz.checked }
namespace Rows
def none {H : Type} : Left H := { results := [], args := [] }

/-- 'harrierlaw40.ClientTries': WHATEVER THE INPUT: true; the input reads as it did. -/
def clientTriesSpec : ChangeSpec := { name := "clientTries", fn := fun _ => fun
  | [d1, d2, d3] => { results := [.lit (.bool true)], args := [d1, d2, d3] }
  | _ => none }
def clientTriesRow : OpenClaim := { program := "ytfhljcbbgckdiaagreat", sum := "35cf91a9415f8587fc7eabe5e2bd9a6ef2a1f8315c61ccfdbbeb13de2fa93801", func := "harrier/harrierlaw40.ClientTries", spec := "clientTries", unfollowed := true, recurses := true, apart := false }
def ClientTriesSaid : Prop := clientTriesRow.holds Tryz.pinned (OpenSpec.ofChange clientTriesSpec)

/-- ITS FALSE NEIGHBOUR: 'it returns false'. Refute it at one input. -/
def clientTriesWrong : ChangeSpec := { name := "clientTries", fn := fun _ => fun
  | [d1, d2, d3] => { results := [.lit (.bool false)], args := [d1, d2, d3] }
  | _ => none }
def ClientTriesWrongFalsely : Prop := clientTriesRow.holds Tryz.pinned (OpenSpec.ofChange clientTriesWrong)

/-- 'harrierlaw40.ClientPlays': WHATEVER THE INPUT: true; the input reads as it did. -/
def clientPlaysSpec : ChangeSpec := { name := "clientPlays", fn := fun _ => fun
  | [d1, d2] => { results := [.lit (.bool true)], args := [d1, d2] }
  | _ => none }
def clientPlaysRow : OpenClaim := { program := "ytfhljcbbgckdiaagreat", sum := "35cf91a9415f8587fc7eabe5e2bd9a6ef2a1f8315c61ccfdbbeb13de2fa93801", func := "harrier/harrierlaw40.ClientPlays", spec := "clientPlays", unfollowed := true, recurses := true, apart := false }
def ClientPlaysSaid : Prop := clientPlaysRow.holds Tryz.pinned (OpenSpec.ofChange clientPlaysSpec)

/-- ITS FALSE NEIGHBOUR: 'it returns false'. Refute it at one input. -/
def clientPlaysWrong : ChangeSpec := { name := "clientPlays", fn := fun _ => fun
  | [d1, d2] => { results := [.lit (.bool false)], args := [d1, d2] }
  | _ => none }
def ClientPlaysWrongFalsely : Prop := clientPlaysRow.holds Tryz.pinned (OpenSpec.ofChange clientPlaysWrong)

/-- 'harrierlaw40.ClientTotal': WHATEVER THE INPUT: true; the input reads as it did. -/
def clientTotalSpec : ChangeSpec := { name := "clientTotal", fn := fun _ => fun
  | [d1, d2] => { results := [.lit (.bool true)], args := [d1, d2] }
  | _ => none }
def clientTotalRow : OpenClaim := { program := "ytfhljcbbgckdiaagreat", sum := "35cf91a9415f8587fc7eabe5e2bd9a6ef2a1f8315c61ccfdbbeb13de2fa93801", func := "harrier/harrierlaw40.ClientTotal", spec := "clientTotal", unfollowed := true, recurses := true, apart := false }
def ClientTotalSaid : Prop := clientTotalRow.holds Tryz.pinned (OpenSpec.ofChange clientTotalSpec)

/-- ITS FALSE NEIGHBOUR: 'it returns false'. Refute it at one input. -/
def clientTotalWrong : ChangeSpec := { name := "clientTotal", fn := fun _ => fun
  | [d1, d2] => { results := [.lit (.bool false)], args := [d1, d2] }
  | _ => none }
def ClientTotalWrongFalsely : Prop := clientTotalRow.holds Tryz.pinned (OpenSpec.ofChange clientTotalWrong)

/-- 'harrierlaw40.ClientNil': WHATEVER THE INPUT: true; the input reads as it did. -/
def clientNilSpec : ChangeSpec := { name := "clientNil", fn := fun _ => fun
  | [d1, d2, d3] => { results := [.lit (.bool true)], args := [d1, d2, d3] }
  | _ => none }
def clientNilRow : OpenClaim := { program := "ytfhljcbbgckdiaagreat", sum := "35cf91a9415f8587fc7eabe5e2bd9a6ef2a1f8315c61ccfdbbeb13de2fa93801", func := "harrier/harrierlaw40.ClientNil", spec := "clientNil", unfollowed := true, recurses := true, apart := false }
def ClientNilSaid : Prop := clientNilRow.holds Tryz.pinned (OpenSpec.ofChange clientNilSpec)

/-- ITS FALSE NEIGHBOUR: 'it returns false'. Refute it at one input. -/
def clientNilWrong : ChangeSpec := { name := "clientNil", fn := fun _ => fun
  | [d1, d2, d3] => { results := [.lit (.bool false)], args := [d1, d2, d3] }
  | _ => none }
def ClientNilWrongFalsely : Prop := clientNilRow.holds Tryz.pinned (OpenSpec.ofChange clientNilWrong)

/- THE SECOND FORM. 'bulk': how many values and letters a reading holds, each counted each time it is reached (what is shared counts as often as it is met; a slice's spare places count too). A statement '..UptoSaid' is the law's where the arguments, and the package variables that the reading takes, are together of bulk at most 1048576: NARROWER than '..Said'. Prove '..Said' where nothing that the law and all that it calls make is longer than what came in: it says more and counts as full. Else prove '..UptoSaid'. A law counts once. -/
mutual
def uptoBulk {H : Type} : DataW H → Nat
  | .lit (.string bytes) => bytes.length + 1
  | .lit _ => 1
  | .nil => 1
  | .ptr d => uptoBulk d + 1
  | .slice elems spare => uptoBulkAll elems + uptoBulkAll spare + 1
  | .agg parts => uptoBulkAll parts + 1
  | .iface _ d => uptoBulk d + 1
  | .map entries => uptoBulkEntries entries + 1
  | .held _ => 1
def uptoBulkAll {H : Type} : List (DataW H) → Nat
  | [] => 0
  | d :: r => uptoBulk d + uptoBulkAll r
def uptoBulkEntries {H : Type} : List (Lit × DataW H) → Nat
  | [] => 0
  | x :: r => uptoBulkEntry x + uptoBulkEntries r
def uptoBulkEntry {H : Type} : Lit × DataW H → Nat
  | (.string bytes, d) => bytes.length + uptoBulk d + 1
  | (_, d) => uptoBulk d + 1
 end
def uptoSmall : (H : Type) → List (DataW H) → Bool := fun _ ds => decide (uptoBulkAll ds ≤ 1048576)
def OpenSpec.upto (s : _root_.Go.ChangeSpec) : _root_.Go.OpenSpec := { _root_.Go.OpenSpec.ofChange s with cond := some uptoSmall }

/-- 'harrierlaw40.ClientTries', WHERE WHAT IT READS IS OF BULK AT MOST 1048576: true; the input reads as it did. -/
def clientTriesUptoRow : OpenClaim := { program := "ytfhljcbbgckdiaagreat", sum := "35cf91a9415f8587fc7eabe5e2bd9a6ef2a1f8315c61ccfdbbeb13de2fa93801", func := "harrier/harrierlaw40.ClientTries", spec := "clientTries", unfollowed := true, recurses := true, apart := false, narrowed := true }
def ClientTriesUptoSaid : Prop := clientTriesUptoRow.holds Tryz.pinned (OpenSpec.upto clientTriesSpec)

/-- 'harrierlaw40.ClientPlays', WHERE WHAT IT READS IS OF BULK AT MOST 1048576: true; the input reads as it did. -/
def clientPlaysUptoRow : OpenClaim := { program := "ytfhljcbbgckdiaagreat", sum := "35cf91a9415f8587fc7eabe5e2bd9a6ef2a1f8315c61ccfdbbeb13de2fa93801", func := "harrier/harrierlaw40.ClientPlays", spec := "clientPlays", unfollowed := true, recurses := true, apart := false, narrowed := true }
def ClientPlaysUptoSaid : Prop := clientPlaysUptoRow.holds Tryz.pinned (OpenSpec.upto clientPlaysSpec)

/-- 'harrierlaw40.ClientTotal', WHERE WHAT IT READS IS OF BULK AT MOST 1048576: true; the input reads as it did. -/
def clientTotalUptoRow : OpenClaim := { program := "ytfhljcbbgckdiaagreat", sum := "35cf91a9415f8587fc7eabe5e2bd9a6ef2a1f8315c61ccfdbbeb13de2fa93801", func := "harrier/harrierlaw40.ClientTotal", spec := "clientTotal", unfollowed := true, recurses := true, apart := false, narrowed := true }
def ClientTotalUptoSaid : Prop := clientTotalUptoRow.holds Tryz.pinned (OpenSpec.upto clientTotalSpec)

/-- 'harrierlaw40.ClientNil', WHERE WHAT IT READS IS OF BULK AT MOST 1048576: true; the input reads as it did. -/
def clientNilUptoRow : OpenClaim := { program := "ytfhljcbbgckdiaagreat", sum := "35cf91a9415f8587fc7eabe5e2bd9a6ef2a1f8315c61ccfdbbeb13de2fa93801", func := "harrier/harrierlaw40.ClientNil", spec := "clientNil", unfollowed := true, recurses := true, apart := false, narrowed := true }
def ClientNilUptoSaid : Prop := clientNilUptoRow.holds Tryz.pinned (OpenSpec.upto clientNilSpec)

end Rows
end Go.Proofs.YtfhljcbbgckdiaaGreat
