/-
  No cell of these rows narrows 'for every input' (looked for: loops, veiled, ifaces, maps, wideKeys, modest, calm, conditions, laid).
  DERIVED. THE GIVEN ROWS OF THIS SEAT. 7 by the template 'for every input the law returns true; each argument reads behind the call as it read before'; 0 by the template 'total and deterministic' (their statements: YtjndiokcedofiaaTotals.lean).
  GIVEN WITH THE SEED: the statements are not yours to turn. If you find one false, say at which input.
  Laid BY PROGRAM, IN A SANDBOX (cutbox-rows.mjs): the forced cells as the released guide's own fill.sh prints them over the translation 692ad81c68ed81a3… (all of the seat's roots in one cut). By AI agents, Wed Nov 11 2026. No macro, syntax, notation, axiom, sorry.
-/
import Derived.Test.YtjndiokcedofiaaChecked
import GoSem.Claim
import GoSem.ClaimJoined
import GoSem.ClaimMapViews
import Derived.JoinedTies
import Derived.KernelRfl
namespace Go.Proofs.Ytjndiokcedofiaa
/- THE CELL 'sum', in the pinned program and in every row, IS THE sha256 OF THE DUMP (.gsa) THAT YtjndiokcedofiaaProg.lean LOADS. Nothing in Lean hashes anything: it is a label: what it is worth is what the hold of that sum in a sandbox is worth. -/
noncomputable def Try.pinned : Pinned := { name := "ytjndiokcedofiaa", sum := "692ad81c68ed81a342f3b1548ef864b2d71b98a00f363fc3c3c0c74ffe499ecf", checked := Try.checked }
namespace Rows
def none {H : Type} : Left H := { results := [], args := [] }

/-- 'assentlaw04.WireNames': WHATEVER THE INPUT: true; the input reads as it did. -/
def wireNamesSpec : ChangeSpec := { name := "wireNames", fn := fun _ => fun
  | [] => { results := [.lit (.bool true)], args := [] }
  | _ => none }
def wireNamesRow : OpenClaim := { program := "ytjndiokcedofiaa", sum := "692ad81c68ed81a342f3b1548ef864b2d71b98a00f363fc3c3c0c74ffe499ecf", func := "assent/assentlaw04.WireNames", spec := "wireNames", apart := false }
def WireNamesSaid : Prop := wireNamesRow.holds Try.pinned (OpenSpec.ofChange wireNamesSpec)

/-- ITS FALSE NEIGHBOUR: 'it returns false'. Refute it at one input. -/
def wireNamesWrong : ChangeSpec := { name := "wireNames", fn := fun _ => fun
  | [] => { results := [.lit (.bool false)], args := [] }
  | _ => none }
def WireNamesWrongFalsely : Prop := wireNamesRow.holds Try.pinned (OpenSpec.ofChange wireNamesWrong)

/-- 'assentlaw13.ArchiveNames': WHATEVER THE INPUT: true; the input reads as it did. -/
def archiveNamesSpec : ChangeSpec := { name := "archiveNames", fn := fun _ => fun
  | [] => { results := [.lit (.bool true)], args := [] }
  | _ => none }
def archiveNamesRow : OpenClaim := { program := "ytjndiokcedofiaa", sum := "692ad81c68ed81a342f3b1548ef864b2d71b98a00f363fc3c3c0c74ffe499ecf", func := "assent/assentlaw13.ArchiveNames", spec := "archiveNames", apart := false }
def ArchiveNamesSaid : Prop := archiveNamesRow.holds Try.pinned (OpenSpec.ofChange archiveNamesSpec)

/-- ITS FALSE NEIGHBOUR: 'it returns false'. Refute it at one input. -/
def archiveNamesWrong : ChangeSpec := { name := "archiveNames", fn := fun _ => fun
  | [] => { results := [.lit (.bool false)], args := [] }
  | _ => none }
def ArchiveNamesWrongFalsely : Prop := archiveNamesRow.holds Try.pinned (OpenSpec.ofChange archiveNamesWrong)

/-- 'assentlaw12.ChainNumbers': WHATEVER THE INPUT: true; the input reads as it did. -/
def chainNumbersSpec : ChangeSpec := { name := "chainNumbers", fn := fun _ => fun
  | [] => { results := [.lit (.bool true)], args := [] }
  | _ => none }
def chainNumbersRow : OpenClaim := { program := "ytjndiokcedofiaa", sum := "692ad81c68ed81a342f3b1548ef864b2d71b98a00f363fc3c3c0c74ffe499ecf", func := "assent/assentlaw12.ChainNumbers", spec := "chainNumbers", apart := false }
def ChainNumbersSaid : Prop := chainNumbersRow.holds Try.pinned (OpenSpec.ofChange chainNumbersSpec)

/-- ITS FALSE NEIGHBOUR: 'it returns false'. Refute it at one input. -/
def chainNumbersWrong : ChangeSpec := { name := "chainNumbers", fn := fun _ => fun
  | [] => { results := [.lit (.bool false)], args := [] }
  | _ => none }
def ChainNumbersWrongFalsely : Prop := chainNumbersRow.holds Try.pinned (OpenSpec.ofChange chainNumbersWrong)

/-- 'assentlaw19.ClientNames': WHATEVER THE INPUT: true; the input reads as it did. -/
def clientNamesSpec : ChangeSpec := { name := "clientNames", fn := fun _ => fun
  | [] => { results := [.lit (.bool true)], args := [] }
  | _ => none }
def clientNamesRow : OpenClaim := { program := "ytjndiokcedofiaa", sum := "692ad81c68ed81a342f3b1548ef864b2d71b98a00f363fc3c3c0c74ffe499ecf", func := "assent/assentlaw19.ClientNames", spec := "clientNames", apart := false }
def ClientNamesSaid : Prop := clientNamesRow.holds Try.pinned (OpenSpec.ofChange clientNamesSpec)

/-- ITS FALSE NEIGHBOUR: 'it returns false'. Refute it at one input. -/
def clientNamesWrong : ChangeSpec := { name := "clientNames", fn := fun _ => fun
  | [] => { results := [.lit (.bool false)], args := [] }
  | _ => none }
def ClientNamesWrongFalsely : Prop := clientNamesRow.holds Try.pinned (OpenSpec.ofChange clientNamesWrong)

/-- 'assentlaw15.NodeNames': WHATEVER THE INPUT: true; the input reads as it did. -/
def nodeNamesSpec : ChangeSpec := { name := "nodeNames", fn := fun _ => fun
  | [] => { results := [.lit (.bool true)], args := [] }
  | _ => none }
def nodeNamesRow : OpenClaim := { program := "ytjndiokcedofiaa", sum := "692ad81c68ed81a342f3b1548ef864b2d71b98a00f363fc3c3c0c74ffe499ecf", func := "assent/assentlaw15.NodeNames", spec := "nodeNames", apart := false }
def NodeNamesSaid : Prop := nodeNamesRow.holds Try.pinned (OpenSpec.ofChange nodeNamesSpec)

/-- ITS FALSE NEIGHBOUR: 'it returns false'. Refute it at one input. -/
def nodeNamesWrong : ChangeSpec := { name := "nodeNames", fn := fun _ => fun
  | [] => { results := [.lit (.bool false)], args := [] }
  | _ => none }
def NodeNamesWrongFalsely : Prop := nodeNamesRow.holds Try.pinned (OpenSpec.ofChange nodeNamesWrong)

/-- 'assentlaw18.ClusterNames': WHATEVER THE INPUT: true; the input reads as it did. -/
def clusterNamesSpec : ChangeSpec := { name := "clusterNames", fn := fun _ => fun
  | [] => { results := [.lit (.bool true)], args := [] }
  | _ => none }
def clusterNamesRow : OpenClaim := { program := "ytjndiokcedofiaa", sum := "692ad81c68ed81a342f3b1548ef864b2d71b98a00f363fc3c3c0c74ffe499ecf", func := "assent/assentlaw18.ClusterNames", spec := "clusterNames", apart := false }
def ClusterNamesSaid : Prop := clusterNamesRow.holds Try.pinned (OpenSpec.ofChange clusterNamesSpec)

/-- ITS FALSE NEIGHBOUR: 'it returns false'. Refute it at one input. -/
def clusterNamesWrong : ChangeSpec := { name := "clusterNames", fn := fun _ => fun
  | [] => { results := [.lit (.bool false)], args := [] }
  | _ => none }
def ClusterNamesWrongFalsely : Prop := clusterNamesRow.holds Try.pinned (OpenSpec.ofChange clusterNamesWrong)

/-- 'assentlaw20.ConsoleNames': WHATEVER THE INPUT: true; the input reads as it did. -/
def consoleNamesSpec : ChangeSpec := { name := "consoleNames", fn := fun _ => fun
  | [] => { results := [.lit (.bool true)], args := [] }
  | _ => none }
def consoleNamesRow : OpenClaim := { program := "ytjndiokcedofiaa", sum := "692ad81c68ed81a342f3b1548ef864b2d71b98a00f363fc3c3c0c74ffe499ecf", func := "assent/assentlaw20.ConsoleNames", spec := "consoleNames", apart := false }
def ConsoleNamesSaid : Prop := consoleNamesRow.holds Try.pinned (OpenSpec.ofChange consoleNamesSpec)

/-- ITS FALSE NEIGHBOUR: 'it returns false'. Refute it at one input. -/
def consoleNamesWrong : ChangeSpec := { name := "consoleNames", fn := fun _ => fun
  | [] => { results := [.lit (.bool false)], args := [] }
  | _ => none }
def ConsoleNamesWrongFalsely : Prop := consoleNamesRow.holds Try.pinned (OpenSpec.ofChange consoleNamesWrong)

/- THE SECOND FORM. 'bulk': how many values and letters a reading holds, each counted each time it is reached (what is shared counts as often as it is met; a slice's spare places count too). A statement '..UptoSaid' is the law's where the arguments, and the package variables that the reading takes, are together of bulk at most 1048576: NARROWER than '..Said'. Prove '..Said' where nothing that the law and all that it calls make is longer than what came in: it says more and counts as full. Else prove '..UptoSaid'. A law counts once. -/
mutual
def uptoBulk {H : Type} : DataW H → Nat
  | .lit (.string bytes) => bytes.length + 1
  | .lit _ => 1
  | .nil => 1
  | .ptr d => uptoBulk d + 1
  | .slice elems spare => uptoBulkAll elems + uptoBulkAll spare + 1
  | .agg parts => uptoBulkAll parts + 1
  | .iface _ d => uptoBulk d + 1
  | .map entries => uptoBulkEntries entries + 1
  | .held _ => 1
def uptoBulkAll {H : Type} : List (DataW H) → Nat
  | [] => 0
  | d :: r => uptoBulk d + uptoBulkAll r
def uptoBulkEntries {H : Type} : List (Lit × DataW H) → Nat
  | [] => 0
  | x :: r => uptoBulkEntry x + uptoBulkEntries r
def uptoBulkEntry {H : Type} : Lit × DataW H → Nat
  | (.string bytes, d) => bytes.length + uptoBulk d + 1
  | (_, d) => uptoBulk d + 1
 end
def uptoSmall : (H : Type) → List (DataW H) → Bool := fun _ ds => decide (uptoBulkAll ds ≤ 1048576)
def OpenSpec.upto (s : _root_.Go.ChangeSpec) : _root_.Go.OpenSpec := { _root_.Go.OpenSpec.ofChange s with cond := some uptoSmall }

/-- 'assentlaw04.WireNames', WHERE WHAT IT READS IS OF BULK AT MOST 1048576: true; the input reads as it did. -/
def wireNamesUptoRow : OpenClaim := { program := "ytjndiokcedofiaa", sum := "692ad81c68ed81a342f3b1548ef864b2d71b98a00f363fc3c3c0c74ffe499ecf", func := "assent/assentlaw04.WireNames", spec := "wireNames", apart := false, narrowed := true }
def WireNamesUptoSaid : Prop := wireNamesUptoRow.holds Try.pinned (OpenSpec.upto wireNamesSpec)

/-- 'assentlaw13.ArchiveNames', WHERE WHAT IT READS IS OF BULK AT MOST 1048576: true; the input reads as it did. -/
def archiveNamesUptoRow : OpenClaim := { program := "ytjndiokcedofiaa", sum := "692ad81c68ed81a342f3b1548ef864b2d71b98a00f363fc3c3c0c74ffe499ecf", func := "assent/assentlaw13.ArchiveNames", spec := "archiveNames", apart := false, narrowed := true }
def ArchiveNamesUptoSaid : Prop := archiveNamesUptoRow.holds Try.pinned (OpenSpec.upto archiveNamesSpec)

/-- 'assentlaw12.ChainNumbers', WHERE WHAT IT READS IS OF BULK AT MOST 1048576: true; the input reads as it did. -/
def chainNumbersUptoRow : OpenClaim := { program := "ytjndiokcedofiaa", sum := "692ad81c68ed81a342f3b1548ef864b2d71b98a00f363fc3c3c0c74ffe499ecf", func := "assent/assentlaw12.ChainNumbers", spec := "chainNumbers", apart := false, narrowed := true }
def ChainNumbersUptoSaid : Prop := chainNumbersUptoRow.holds Try.pinned (OpenSpec.upto chainNumbersSpec)

/-- 'assentlaw19.ClientNames', WHERE WHAT IT READS IS OF BULK AT MOST 1048576: true; the input reads as it did. -/
def clientNamesUptoRow : OpenClaim := { program := "ytjndiokcedofiaa", sum := "692ad81c68ed81a342f3b1548ef864b2d71b98a00f363fc3c3c0c74ffe499ecf", func := "assent/assentlaw19.ClientNames", spec := "clientNames", apart := false, narrowed := true }
def ClientNamesUptoSaid : Prop := clientNamesUptoRow.holds Try.pinned (OpenSpec.upto clientNamesSpec)

/-- 'assentlaw15.NodeNames', WHERE WHAT IT READS IS OF BULK AT MOST 1048576: true; the input reads as it did. -/
def nodeNamesUptoRow : OpenClaim := { program := "ytjndiokcedofiaa", sum := "692ad81c68ed81a342f3b1548ef864b2d71b98a00f363fc3c3c0c74ffe499ecf", func := "assent/assentlaw15.NodeNames", spec := "nodeNames", apart := false, narrowed := true }
def NodeNamesUptoSaid : Prop := nodeNamesUptoRow.holds Try.pinned (OpenSpec.upto nodeNamesSpec)

/-- 'assentlaw18.ClusterNames', WHERE WHAT IT READS IS OF BULK AT MOST 1048576: true; the input reads as it did. -/
def clusterNamesUptoRow : OpenClaim := { program := "ytjndiokcedofiaa", sum := "692ad81c68ed81a342f3b1548ef864b2d71b98a00f363fc3c3c0c74ffe499ecf", func := "assent/assentlaw18.ClusterNames", spec := "clusterNames", apart := false, narrowed := true }
def ClusterNamesUptoSaid : Prop := clusterNamesUptoRow.holds Try.pinned (OpenSpec.upto clusterNamesSpec)

/-- 'assentlaw20.ConsoleNames', WHERE WHAT IT READS IS OF BULK AT MOST 1048576: true; the input reads as it did. -/
def consoleNamesUptoRow : OpenClaim := { program := "ytjndiokcedofiaa", sum := "692ad81c68ed81a342f3b1548ef864b2d71b98a00f363fc3c3c0c74ffe499ecf", func := "assent/assentlaw20.ConsoleNames", spec := "consoleNames", apart := false, narrowed := true }
def ConsoleNamesUptoSaid : Prop := consoleNamesUptoRow.holds Try.pinned (OpenSpec.upto consoleNamesSpec)

end Rows
end Go.Proofs.Ytjndiokcedofiaa
