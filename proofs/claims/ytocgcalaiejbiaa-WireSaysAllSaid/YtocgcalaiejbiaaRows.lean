/-
  No cell of these rows narrows 'for every input' (looked for: loops, veiled, ifaces, maps, wideKeys, modest, calm, conditions, laid).
  DERIVED. THE GIVEN ROWS OF THIS SEAT. 4 by the template 'for every input the law returns true; each argument reads behind the call as it read before'; 0 by the template 'total and deterministic' (their statements: YtocgcalaiejbiaaTotals.lean).
  GIVEN WITH THE SEED: the statements are not yours to turn. If you find one false, say at which input.
  Laid BY PROGRAM, IN A SANDBOX (cutbox-rows.mjs): the forced cells as the released guide's own fill.sh prints them over the translation 74360d5704b42977… (all of the seat's roots in one cut). By AI agents, Wed Nov 11 2026. No macro, syntax, notation, axiom, sorry.
-/
import Derived.Test.YtocgcalaiejbiaaChecked
import GoSem.Claim
import GoSem.ClaimJoined
import GoSem.ClaimMapViews
import Derived.JoinedTies
import Derived.KernelRfl
namespace Go.Proofs.Ytocgcalaiejbiaa
/- THE CELL 'sum', in the pinned program and in every row, IS THE sha256 OF THE DUMP (.gsa) THAT YtocgcalaiejbiaaProg.lean LOADS. Nothing in Lean hashes anything: it is a label: what it is worth is what the hold of that sum in a sandbox is worth. -/
noncomputable def Try.pinned : Pinned := { name := "ytocgcalaiejbiaa", sum := "74360d5704b429777f464074944fc79cef5e622462eecacc43bad3762b5d6617", checked := Try.checked }
namespace Rows
def none {H : Type} : Left H := { results := [], args := [] }

/-- 'assentlaw04.WireSigns': WHATEVER THE INPUT: true; the input reads as it did. -/
def wireSignsSpec : ChangeSpec := { name := "wireSigns", fn := fun _ => fun
  | [d] => { results := [.lit (.bool true)], args := [d] }
  | _ => none }
def wireSignsRow : OpenClaim := { program := "ytocgcalaiejbiaa", sum := "74360d5704b429777f464074944fc79cef5e622462eecacc43bad3762b5d6617", func := "assent/assentlaw04.WireSigns", spec := "wireSigns", unfollowed := true, recurses := true, apart := false }
def WireSignsSaid : Prop := wireSignsRow.holds Try.pinned (OpenSpec.ofChange wireSignsSpec)

/-- ITS FALSE NEIGHBOUR: 'it returns false'. Refute it at one input. -/
def wireSignsWrong : ChangeSpec := { name := "wireSigns", fn := fun _ => fun
  | [d] => { results := [.lit (.bool false)], args := [d] }
  | _ => none }
def WireSignsWrongFalsely : Prop := wireSignsRow.holds Try.pinned (OpenSpec.ofChange wireSignsWrong)

/-- 'assentlaw04.WireSaid': WHATEVER THE INPUT: true; the input reads as it did. -/
def wireSaidSpec : ChangeSpec := { name := "wireSaid", fn := fun _ => fun
  | [d] => { results := [.lit (.bool true)], args := [d] }
  | _ => none }
def wireSaidRow : OpenClaim := { program := "ytocgcalaiejbiaa", sum := "74360d5704b429777f464074944fc79cef5e622462eecacc43bad3762b5d6617", func := "assent/assentlaw04.WireSaid", spec := "wireSaid", unfollowed := true, recurses := true, apart := false }
def WireSaidSaid : Prop := wireSaidRow.holds Try.pinned (OpenSpec.ofChange wireSaidSpec)

/-- ITS FALSE NEIGHBOUR: 'it returns false'. Refute it at one input. -/
def wireSaidWrong : ChangeSpec := { name := "wireSaid", fn := fun _ => fun
  | [d] => { results := [.lit (.bool false)], args := [d] }
  | _ => none }
def WireSaidWrongFalsely : Prop := wireSaidRow.holds Try.pinned (OpenSpec.ofChange wireSaidWrong)

/-- 'assentlaw04.WireHeard': WHATEVER THE INPUT: true; the input reads as it did. -/
def wireHeardSpec : ChangeSpec := { name := "wireHeard", fn := fun _ => fun
  | [d] => { results := [.lit (.bool true)], args := [d] }
  | _ => none }
def wireHeardRow : OpenClaim := { program := "ytocgcalaiejbiaa", sum := "74360d5704b429777f464074944fc79cef5e622462eecacc43bad3762b5d6617", func := "assent/assentlaw04.WireHeard", spec := "wireHeard", unfollowed := true, recurses := true, apart := false }
def WireHeardSaid : Prop := wireHeardRow.holds Try.pinned (OpenSpec.ofChange wireHeardSpec)

/-- ITS FALSE NEIGHBOUR: 'it returns false'. Refute it at one input. -/
def wireHeardWrong : ChangeSpec := { name := "wireHeard", fn := fun _ => fun
  | [d] => { results := [.lit (.bool false)], args := [d] }
  | _ => none }
def WireHeardWrongFalsely : Prop := wireHeardRow.holds Try.pinned (OpenSpec.ofChange wireHeardWrong)

/-- 'assentlaw04.WireSaysAll': WHATEVER THE INPUT: true; the input reads as it did. -/
def wireSaysAllSpec : ChangeSpec := { name := "wireSaysAll", fn := fun _ => fun
  | [d1, d2, d3, d4] => { results := [.lit (.bool true)], args := [d1, d2, d3, d4] }
  | _ => none }
def wireSaysAllRow : OpenClaim := { program := "ytocgcalaiejbiaa", sum := "74360d5704b429777f464074944fc79cef5e622462eecacc43bad3762b5d6617", func := "assent/assentlaw04.WireSaysAll", spec := "wireSaysAll", unfollowed := true, recurses := true, apart := false }
def WireSaysAllSaid : Prop := wireSaysAllRow.holds Try.pinned (OpenSpec.ofChange wireSaysAllSpec)

/-- ITS FALSE NEIGHBOUR: 'it returns false'. Refute it at one input. -/
def wireSaysAllWrong : ChangeSpec := { name := "wireSaysAll", fn := fun _ => fun
  | [d1, d2, d3, d4] => { results := [.lit (.bool false)], args := [d1, d2, d3, d4] }
  | _ => none }
def WireSaysAllWrongFalsely : Prop := wireSaysAllRow.holds Try.pinned (OpenSpec.ofChange wireSaysAllWrong)

/- THE SECOND FORM. 'bulk': how many values and letters a reading holds, each counted each time it is reached (what is shared counts as often as it is met; a slice's spare places count too). A statement '..UptoSaid' is the law's where the arguments, and the package variables that the reading takes, are together of bulk at most 1048576: NARROWER than '..Said'. Prove '..Said' where nothing that the law and all that it calls make is longer than what came in: it says more and counts as full. Else prove '..UptoSaid'. A law counts once. -/
mutual
def uptoBulk {H : Type} : DataW H → Nat
  | .lit (.string bytes) => bytes.length + 1
  | .lit _ => 1
  | .nil => 1
  | .ptr d => uptoBulk d + 1
  | .slice elems spare => uptoBulkAll elems + uptoBulkAll spare + 1
  | .agg parts => uptoBulkAll parts + 1
  | .iface _ d => uptoBulk d + 1
  | .map entries => uptoBulkEntries entries + 1
  | .held _ => 1
def uptoBulkAll {H : Type} : List (DataW H) → Nat
  | [] => 0
  | d :: r => uptoBulk d + uptoBulkAll r
def uptoBulkEntries {H : Type} : List (Lit × DataW H) → Nat
  | [] => 0
  | x :: r => uptoBulkEntry x + uptoBulkEntries r
def uptoBulkEntry {H : Type} : Lit × DataW H → Nat
  | (.string bytes, d) => bytes.length + uptoBulk d + 1
  | (_, d) => uptoBulk d + 1
 end
def uptoSmall : (H : Type) → List (DataW H) → Bool := fun _ ds => decide (uptoBulkAll ds ≤ 1048576)
def OpenSpec.upto (s : _root_.Go.ChangeSpec) : _root_.Go.OpenSpec := { _root_.Go.OpenSpec.ofChange s with cond := some uptoSmall }

/-- 'assentlaw04.WireSigns', WHERE WHAT IT READS IS OF BULK AT MOST 1048576: true; the input reads as it did. -/
def wireSignsUptoRow : OpenClaim := { program := "ytocgcalaiejbiaa", sum := "74360d5704b429777f464074944fc79cef5e622462eecacc43bad3762b5d6617", func := "assent/assentlaw04.WireSigns", spec := "wireSigns", unfollowed := true, recurses := true, apart := false, narrowed := true }
def WireSignsUptoSaid : Prop := wireSignsUptoRow.holds Try.pinned (OpenSpec.upto wireSignsSpec)

/-- 'assentlaw04.WireSaid', WHERE WHAT IT READS IS OF BULK AT MOST 1048576: true; the input reads as it did. -/
def wireSaidUptoRow : OpenClaim := { program := "ytocgcalaiejbiaa", sum := "74360d5704b429777f464074944fc79cef5e622462eecacc43bad3762b5d6617", func := "assent/assentlaw04.WireSaid", spec := "wireSaid", unfollowed := true, recurses := true, apart := false, narrowed := true }
def WireSaidUptoSaid : Prop := wireSaidUptoRow.holds Try.pinned (OpenSpec.upto wireSaidSpec)

/-- 'assentlaw04.WireHeard', WHERE WHAT IT READS IS OF BULK AT MOST 1048576: true; the input reads as it did. -/
def wireHeardUptoRow : OpenClaim := { program := "ytocgcalaiejbiaa", sum := "74360d5704b429777f464074944fc79cef5e622462eecacc43bad3762b5d6617", func := "assent/assentlaw04.WireHeard", spec := "wireHeard", unfollowed := true, recurses := true, apart := false, narrowed := true }
def WireHeardUptoSaid : Prop := wireHeardUptoRow.holds Try.pinned (OpenSpec.upto wireHeardSpec)

/-- 'assentlaw04.WireSaysAll', WHERE WHAT IT READS IS OF BULK AT MOST 1048576: true; the input reads as it did. -/
def wireSaysAllUptoRow : OpenClaim := { program := "ytocgcalaiejbiaa", sum := "74360d5704b429777f464074944fc79cef5e622462eecacc43bad3762b5d6617", func := "assent/assentlaw04.WireSaysAll", spec := "wireSaysAll", unfollowed := true, recurses := true, apart := false, narrowed := true }
def WireSaysAllUptoSaid : Prop := wireSaysAllUptoRow.holds Try.pinned (OpenSpec.upto wireSaysAllSpec)

end Rows
end Go.Proofs.Ytocgcalaiejbiaa
