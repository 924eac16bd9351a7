/-
  No cell of these rows narrows 'for every input' (looked for: loops, veiled, ifaces, maps, wideKeys, modest, calm, conditions, laid).
  DERIVED. THE GIVEN ROWS OF THIS SEAT. 6 by the template 'for every input the law returns true; each argument reads behind the call as it read before'; 0 by the template 'total and deterministic' (their statements: YtjacgoipfmiaiaaTotals.lean).
  GIVEN WITH THE SEED: the statements are not yours to turn. If you find one false, say at which input.
  Laid BY PROGRAM, IN A SANDBOX (cutbox-rows.mjs): the forced cells as the released guide's own fill.sh prints them over the translation 531e012fb398d3cb… (all of the seat's roots in one cut). By AI agents, Wed Nov 11 2026. No macro, syntax, notation, axiom, sorry.
-/
import Derived.Test.YtjacgoipfmiaiaaChecked
import GoSem.Claim
import GoSem.ClaimJoined
import GoSem.ClaimMapViews
import Derived.JoinedTies
import Derived.KernelRfl
namespace Go.Proofs.Ytjacgoipfmiaiaa
/- THE CELL 'sum', in the pinned program and in every row, IS THE sha256 OF THE DUMP (.gsa) THAT YtjacgoipfmiaiaaProg.lean LOADS. Nothing in Lean hashes anything: it is a label: what it is worth is what the hold of that sum in a sandbox is worth. -/
noncomputable def Try.pinned : Pinned := { name := "ytjacgoipfmiaiaa", sum := "531e012fb398d3cb233687322bcd0ecfbb3f2f054b9496c9f8f1a895b5689e5e", checked := Try.checked }
namespace Rows
def none {H : Type} : Left H := { results := [], args := [] }

/-- 'cellularlaw12.TreeRight': WHATEVER THE INPUT: true; the input reads as it did. -/
def treeRightSpec : ChangeSpec := { name := "treeRight", fn := fun _ => fun
  | [d] => { results := [.lit (.bool true)], args := [d] }
  | _ => none }
def treeRightRow : OpenClaim := { program := "ytjacgoipfmiaiaa", sum := "531e012fb398d3cb233687322bcd0ecfbb3f2f054b9496c9f8f1a895b5689e5e", func := "cellular/cellularlaw12.TreeRight", spec := "treeRight", unfollowed := true, recurses := true, apart := false }
def TreeRightSaid : Prop := treeRightRow.holds Try.pinned (OpenSpec.ofChange treeRightSpec)

/-- ITS FALSE NEIGHBOUR: 'it returns false'. Refute it at one input. -/
def treeRightWrong : ChangeSpec := { name := "treeRight", fn := fun _ => fun
  | [d] => { results := [.lit (.bool false)], args := [d] }
  | _ => none }
def TreeRightWrongFalsely : Prop := treeRightRow.holds Try.pinned (OpenSpec.ofChange treeRightWrong)

/-- 'cellularlaw12.TreeEval': WHATEVER THE INPUT: true; the input reads as it did. -/
def treeEvalSpec : ChangeSpec := { name := "treeEval", fn := fun _ => fun
  | [d1, d2] => { results := [.lit (.bool true)], args := [d1, d2] }
  | _ => none }
def treeEvalRow : OpenClaim := { program := "ytjacgoipfmiaiaa", sum := "531e012fb398d3cb233687322bcd0ecfbb3f2f054b9496c9f8f1a895b5689e5e", func := "cellular/cellularlaw12.TreeEval", spec := "treeEval", unfollowed := true, recurses := true, apart := false }
def TreeEvalSaid : Prop := treeEvalRow.holds Try.pinned (OpenSpec.ofChange treeEvalSpec)

/-- ITS FALSE NEIGHBOUR: 'it returns false'. Refute it at one input. -/
def treeEvalWrong : ChangeSpec := { name := "treeEval", fn := fun _ => fun
  | [d1, d2] => { results := [.lit (.bool false)], args := [d1, d2] }
  | _ => none }
def TreeEvalWrongFalsely : Prop := treeEvalRow.holds Try.pinned (OpenSpec.ofChange treeEvalWrong)

/-- 'cellularlaw12.TreeBuild': WHATEVER THE INPUT: true; the input reads as it did. -/
def treeBuildSpec : ChangeSpec := { name := "treeBuild", fn := fun _ => fun
  | [d1, d2, d3] => { results := [.lit (.bool true)], args := [d1, d2, d3] }
  | _ => none }
def treeBuildRow : OpenClaim := { program := "ytjacgoipfmiaiaa", sum := "531e012fb398d3cb233687322bcd0ecfbb3f2f054b9496c9f8f1a895b5689e5e", func := "cellular/cellularlaw12.TreeBuild", spec := "treeBuild", unfollowed := true, recurses := true, apart := false }
def TreeBuildSaid : Prop := treeBuildRow.holds Try.pinned (OpenSpec.ofChange treeBuildSpec)

/-- ITS FALSE NEIGHBOUR: 'it returns false'. Refute it at one input. -/
def treeBuildWrong : ChangeSpec := { name := "treeBuild", fn := fun _ => fun
  | [d1, d2, d3] => { results := [.lit (.bool false)], args := [d1, d2, d3] }
  | _ => none }
def TreeBuildWrongFalsely : Prop := treeBuildRow.holds Try.pinned (OpenSpec.ofChange treeBuildWrong)

/-- 'cellularlaw12.TreeSame': WHATEVER THE INPUT: true; the input reads as it did. -/
def treeSameSpec : ChangeSpec := { name := "treeSame", fn := fun _ => fun
  | [d1, d2] => { results := [.lit (.bool true)], args := [d1, d2] }
  | _ => none }
def treeSameRow : OpenClaim := { program := "ytjacgoipfmiaiaa", sum := "531e012fb398d3cb233687322bcd0ecfbb3f2f054b9496c9f8f1a895b5689e5e", func := "cellular/cellularlaw12.TreeSame", spec := "treeSame", unfollowed := true, recurses := true, apart := false }
def TreeSameSaid : Prop := treeSameRow.holds Try.pinned (OpenSpec.ofChange treeSameSpec)

/-- ITS FALSE NEIGHBOUR: 'it returns false'. Refute it at one input. -/
def treeSameWrong : ChangeSpec := { name := "treeSame", fn := fun _ => fun
  | [d1, d2] => { results := [.lit (.bool false)], args := [d1, d2] }
  | _ => none }
def TreeSameWrongFalsely : Prop := treeSameRow.holds Try.pinned (OpenSpec.ofChange treeSameWrong)

/-- 'cellularlaw12.TreeValues': WHATEVER THE INPUT: true; the input reads as it did. -/
def treeValuesSpec : ChangeSpec := { name := "treeValues", fn := fun _ => fun
  | [d1, d2, d3] => { results := [.lit (.bool true)], args := [d1, d2, d3] }
  | _ => none }
def treeValuesRow : OpenClaim := { program := "ytjacgoipfmiaiaa", sum := "531e012fb398d3cb233687322bcd0ecfbb3f2f054b9496c9f8f1a895b5689e5e", func := "cellular/cellularlaw12.TreeValues", spec := "treeValues", unfollowed := true, recurses := true, apart := false }
def TreeValuesSaid : Prop := treeValuesRow.holds Try.pinned (OpenSpec.ofChange treeValuesSpec)

/-- ITS FALSE NEIGHBOUR: 'it returns false'. Refute it at one input. -/
def treeValuesWrong : ChangeSpec := { name := "treeValues", fn := fun _ => fun
  | [d1, d2, d3] => { results := [.lit (.bool false)], args := [d1, d2, d3] }
  | _ => none }
def TreeValuesWrongFalsely : Prop := treeValuesRow.holds Try.pinned (OpenSpec.ofChange treeValuesWrong)

/-- 'cellularlaw12.TreeLocal': WHATEVER THE INPUT: true; the input reads as it did. -/
def treeLocalSpec : ChangeSpec := { name := "treeLocal", fn := fun _ => fun
  | [d1, d2] => { results := [.lit (.bool true)], args := [d1, d2] }
  | _ => none }
def treeLocalRow : OpenClaim := { program := "ytjacgoipfmiaiaa", sum := "531e012fb398d3cb233687322bcd0ecfbb3f2f054b9496c9f8f1a895b5689e5e", func := "cellular/cellularlaw12.TreeLocal", spec := "treeLocal", unfollowed := true, recurses := true, apart := false }
def TreeLocalSaid : Prop := treeLocalRow.holds Try.pinned (OpenSpec.ofChange treeLocalSpec)

/-- ITS FALSE NEIGHBOUR: 'it returns false'. Refute it at one input. -/
def treeLocalWrong : ChangeSpec := { name := "treeLocal", fn := fun _ => fun
  | [d1, d2] => { results := [.lit (.bool false)], args := [d1, d2] }
  | _ => none }
def TreeLocalWrongFalsely : Prop := treeLocalRow.holds Try.pinned (OpenSpec.ofChange treeLocalWrong)

/- THE SECOND FORM. 'bulk': how many values and letters a reading holds, each counted each time it is reached (what is shared counts as often as it is met; a slice's spare places count too). A statement '..UptoSaid' is the law's where the arguments, and the package variables that the reading takes, are together of bulk at most 1048576: NARROWER than '..Said'. Prove '..Said' where nothing that the law and all that it calls make is longer than what came in: it says more and counts as full. Else prove '..UptoSaid'. A law counts once. -/
mutual
def uptoBulk {H : Type} : DataW H → Nat
  | .lit (.string bytes) => bytes.length + 1
  | .lit _ => 1
  | .nil => 1
  | .ptr d => uptoBulk d + 1
  | .slice elems spare => uptoBulkAll elems + uptoBulkAll spare + 1
  | .agg parts => uptoBulkAll parts + 1
  | .iface _ d => uptoBulk d + 1
  | .map entries => uptoBulkEntries entries + 1
  | .held _ => 1
def uptoBulkAll {H : Type} : List (DataW H) → Nat
  | [] => 0
  | d :: r => uptoBulk d + uptoBulkAll r
def uptoBulkEntries {H : Type} : List (Lit × DataW H) → Nat
  | [] => 0
  | x :: r => uptoBulkEntry x + uptoBulkEntries r
def uptoBulkEntry {H : Type} : Lit × DataW H → Nat
  | (.string bytes, d) => bytes.length + uptoBulk d + 1
  | (_, d) => uptoBulk d + 1
 end
def uptoSmall : (H : Type) → List (DataW H) → Bool := fun _ ds => decide (uptoBulkAll ds ≤ 1048576)
def OpenSpec.upto (s : _root_.Go.ChangeSpec) : _root_.Go.OpenSpec := { _root_.Go.OpenSpec.ofChange s with cond := some uptoSmall }

/-- 'cellularlaw12.TreeRight', WHERE WHAT IT READS IS OF BULK AT MOST 1048576: true; the input reads as it did. -/
def treeRightUptoRow : OpenClaim := { program := "ytjacgoipfmiaiaa", sum := "531e012fb398d3cb233687322bcd0ecfbb3f2f054b9496c9f8f1a895b5689e5e", func := "cellular/cellularlaw12.TreeRight", spec := "treeRight", unfollowed := true, recurses := true, apart := false, narrowed := true }
def TreeRightUptoSaid : Prop := treeRightUptoRow.holds Try.pinned (OpenSpec.upto treeRightSpec)

/-- 'cellularlaw12.TreeEval', WHERE WHAT IT READS IS OF BULK AT MOST 1048576: true; the input reads as it did. -/
def treeEvalUptoRow : OpenClaim := { program := "ytjacgoipfmiaiaa", sum := "531e012fb398d3cb233687322bcd0ecfbb3f2f054b9496c9f8f1a895b5689e5e", func := "cellular/cellularlaw12.TreeEval", spec := "treeEval", unfollowed := true, recurses := true, apart := false, narrowed := true }
def TreeEvalUptoSaid : Prop := treeEvalUptoRow.holds Try.pinned (OpenSpec.upto treeEvalSpec)

/-- 'cellularlaw12.TreeBuild', WHERE WHAT IT READS IS OF BULK AT MOST 1048576: true; the input reads as it did. -/
def treeBuildUptoRow : OpenClaim := { program := "ytjacgoipfmiaiaa", sum := "531e012fb398d3cb233687322bcd0ecfbb3f2f054b9496c9f8f1a895b5689e5e", func := "cellular/cellularlaw12.TreeBuild", spec := "treeBuild", unfollowed := true, recurses := true, apart := false, narrowed := true }
def TreeBuildUptoSaid : Prop := treeBuildUptoRow.holds Try.pinned (OpenSpec.upto treeBuildSpec)

/-- 'cellularlaw12.TreeSame', WHERE WHAT IT READS IS OF BULK AT MOST 1048576: true; the input reads as it did. -/
def treeSameUptoRow : OpenClaim := { program := "ytjacgoipfmiaiaa", sum := "531e012fb398d3cb233687322bcd0ecfbb3f2f054b9496c9f8f1a895b5689e5e", func := "cellular/cellularlaw12.TreeSame", spec := "treeSame", unfollowed := true, recurses := true, apart := false, narrowed := true }
def TreeSameUptoSaid : Prop := treeSameUptoRow.holds Try.pinned (OpenSpec.upto treeSameSpec)

/-- 'cellularlaw12.TreeValues', WHERE WHAT IT READS IS OF BULK AT MOST 1048576: true; the input reads as it did. -/
def treeValuesUptoRow : OpenClaim := { program := "ytjacgoipfmiaiaa", sum := "531e012fb398d3cb233687322bcd0ecfbb3f2f054b9496c9f8f1a895b5689e5e", func := "cellular/cellularlaw12.TreeValues", spec := "treeValues", unfollowed := true, recurses := true, apart := false, narrowed := true }
def TreeValuesUptoSaid : Prop := treeValuesUptoRow.holds Try.pinned (OpenSpec.upto treeValuesSpec)

/-- 'cellularlaw12.TreeLocal', WHERE WHAT IT READS IS OF BULK AT MOST 1048576: true; the input reads as it did. -/
def treeLocalUptoRow : OpenClaim := { program := "ytjacgoipfmiaiaa", sum := "531e012fb398d3cb233687322bcd0ecfbb3f2f054b9496c9f8f1a895b5689e5e", func := "cellular/cellularlaw12.TreeLocal", spec := "treeLocal", unfollowed := true, recurses := true, apart := false, narrowed := true }
def TreeLocalUptoSaid : Prop := treeLocalUptoRow.holds Try.pinned (OpenSpec.upto treeLocalSpec)

end Rows
end Go.Proofs.Ytjacgoipfmiaiaa
