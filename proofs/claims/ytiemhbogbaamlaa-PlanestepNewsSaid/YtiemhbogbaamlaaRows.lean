/-
  No cell of these rows narrows 'for every input' (looked for: loops, veiled, ifaces, maps, wideKeys, modest, calm, conditions, laid).
  DERIVED. THE GIVEN ROWS OF THIS SEAT. 5 by the template 'for every input the law returns true; each argument reads behind the call as it read before'; 0 by the template 'total and deterministic' (their statements: YtiemhbogbaamlaaTotals.lean).
  GIVEN WITH THE SEED: the statements are not yours to turn. If you find one false, say at which input.
  Laid BY PROGRAM, IN A SANDBOX (cutbox-rows.mjs): the forced cells as the released guide's own fill.sh prints them over the translation ac07959af7edbcf4… (all of the seat's roots in one cut). By AI agents, Wed Nov 11 2026. No macro, syntax, notation, axiom, sorry.
-/
import Derived.Test.YtiemhbogbaamlaaChecked
import GoSem.Claim
import GoSem.ClaimJoined
import GoSem.ClaimMapViews
import Derived.JoinedTies
import Derived.KernelRfl
namespace Go.Proofs.Ytiemhbogbaamlaa
/- THE CELL 'sum', in the pinned program and in every row, IS THE sha256 OF THE DUMP (.gsa) THAT YtiemhbogbaamlaaProg.lean LOADS. Nothing in Lean hashes anything: it is a label: what it is worth is what the hold of that sum in a sandbox is worth. -/
noncomputable def Try.pinned : Pinned := { name := "ytiemhbogbaamlaa", sum := "ac07959af7edbcf4b0a026436d6cb943d63d670712d744e2784dc32508ba8829", checked := Try.checked }
namespace Rows
def none {H : Type} : Left H := { results := [], args := [] }

/-- 'cellularlaw24.PlanestepNews': WHATEVER THE INPUT: true; the input reads as it did. -/
def planestepNewsSpec : ChangeSpec := { name := "planestepNews", fn := fun _ => fun
  | [d] => { results := [.lit (.bool true)], args := [d] }
  | _ => none }
def planestepNewsRow : OpenClaim := { program := "ytiemhbogbaamlaa", sum := "ac07959af7edbcf4b0a026436d6cb943d63d670712d744e2784dc32508ba8829", func := "cellular/cellularlaw24.PlanestepNews", spec := "planestepNews", unfollowed := true, recurses := true, plainKeys := false, apart := false }
def PlanestepNewsSaid : Prop := planestepNewsRow.holds Try.pinned (OpenSpec.ofChange planestepNewsSpec)

/-- ITS FALSE NEIGHBOUR: 'it returns false'. Refute it at one input. -/
def planestepNewsWrong : ChangeSpec := { name := "planestepNews", fn := fun _ => fun
  | [d] => { results := [.lit (.bool false)], args := [d] }
  | _ => none }
def PlanestepNewsWrongFalsely : Prop := planestepNewsRow.holds Try.pinned (OpenSpec.ofChange planestepNewsWrong)

/-- 'cellularlaw24.PlanestepSteps': WHATEVER THE INPUT: true; the input reads as it did. -/
def planestepStepsSpec : ChangeSpec := { name := "planestepSteps", fn := fun _ => fun
  | [d1, d2] => { results := [.lit (.bool true)], args := [d1, d2] }
  | _ => none }
def planestepStepsRow : OpenClaim := { program := "ytiemhbogbaamlaa", sum := "ac07959af7edbcf4b0a026436d6cb943d63d670712d744e2784dc32508ba8829", func := "cellular/cellularlaw24.PlanestepSteps", spec := "planestepSteps", unfollowed := true, recurses := true, plainKeys := false, apart := false }
def PlanestepStepsSaid : Prop := planestepStepsRow.holds Try.pinned (OpenSpec.ofChange planestepStepsSpec)

/-- ITS FALSE NEIGHBOUR: 'it returns false'. Refute it at one input. -/
def planestepStepsWrong : ChangeSpec := { name := "planestepSteps", fn := fun _ => fun
  | [d1, d2] => { results := [.lit (.bool false)], args := [d1, d2] }
  | _ => none }
def PlanestepStepsWrongFalsely : Prop := planestepStepsRow.holds Try.pinned (OpenSpec.ofChange planestepStepsWrong)

/-- 'cellularlaw24.PlanestepRuns': WHATEVER THE INPUT: true; the input reads as it did. -/
def planestepRunsSpec : ChangeSpec := { name := "planestepRuns", fn := fun _ => fun
  | [d1, d2, d3] => { results := [.lit (.bool true)], args := [d1, d2, d3] }
  | _ => none }
def planestepRunsRow : OpenClaim := { program := "ytiemhbogbaamlaa", sum := "ac07959af7edbcf4b0a026436d6cb943d63d670712d744e2784dc32508ba8829", func := "cellular/cellularlaw24.PlanestepRuns", spec := "planestepRuns", unfollowed := true, recurses := true, plainKeys := false, apart := false }
def PlanestepRunsSaid : Prop := planestepRunsRow.holds Try.pinned (OpenSpec.ofChange planestepRunsSpec)

/-- ITS FALSE NEIGHBOUR: 'it returns false'. Refute it at one input. -/
def planestepRunsWrong : ChangeSpec := { name := "planestepRuns", fn := fun _ => fun
  | [d1, d2, d3] => { results := [.lit (.bool false)], args := [d1, d2, d3] }
  | _ => none }
def PlanestepRunsWrongFalsely : Prop := planestepRunsRow.holds Try.pinned (OpenSpec.ofChange planestepRunsWrong)

/-- 'cellularlaw24.PlanestepNil': WHATEVER THE INPUT: true; the input reads as it did. -/
def planestepNilSpec : ChangeSpec := { name := "planestepNil", fn := fun _ => fun
  | [d1, d2] => { results := [.lit (.bool true)], args := [d1, d2] }
  | _ => none }
def planestepNilRow : OpenClaim := { program := "ytiemhbogbaamlaa", sum := "ac07959af7edbcf4b0a026436d6cb943d63d670712d744e2784dc32508ba8829", func := "cellular/cellularlaw24.PlanestepNil", spec := "planestepNil", unfollowed := true, recurses := true, plainKeys := false, apart := false }
def PlanestepNilSaid : Prop := planestepNilRow.holds Try.pinned (OpenSpec.ofChange planestepNilSpec)

/-- ITS FALSE NEIGHBOUR: 'it returns false'. Refute it at one input. -/
def planestepNilWrong : ChangeSpec := { name := "planestepNil", fn := fun _ => fun
  | [d1, d2] => { results := [.lit (.bool false)], args := [d1, d2] }
  | _ => none }
def PlanestepNilWrongFalsely : Prop := planestepNilRow.holds Try.pinned (OpenSpec.ofChange planestepNilWrong)

/-- 'cellularlaw24.PlanestepCells': WHATEVER THE INPUT: true; the input reads as it did. -/
def planestepCellsSpec : ChangeSpec := { name := "planestepCells", fn := fun _ => fun
  | [d1, d2] => { results := [.lit (.bool true)], args := [d1, d2] }
  | _ => none }
def planestepCellsRow : OpenClaim := { program := "ytiemhbogbaamlaa", sum := "ac07959af7edbcf4b0a026436d6cb943d63d670712d744e2784dc32508ba8829", func := "cellular/cellularlaw24.PlanestepCells", spec := "planestepCells", unfollowed := true, recurses := true, plainKeys := false, apart := false }
def PlanestepCellsSaid : Prop := planestepCellsRow.holds Try.pinned (OpenSpec.ofChange planestepCellsSpec)

/-- ITS FALSE NEIGHBOUR: 'it returns false'. Refute it at one input. -/
def planestepCellsWrong : ChangeSpec := { name := "planestepCells", fn := fun _ => fun
  | [d1, d2] => { results := [.lit (.bool false)], args := [d1, d2] }
  | _ => none }
def PlanestepCellsWrongFalsely : Prop := planestepCellsRow.holds Try.pinned (OpenSpec.ofChange planestepCellsWrong)

/- THE SECOND FORM. 'bulk': how many values and letters a reading holds, each counted each time it is reached (what is shared counts as often as it is met; a slice's spare places count too). A statement '..UptoSaid' is the law's where the arguments, and the package variables that the reading takes, are together of bulk at most 1048576: NARROWER than '..Said'. Prove '..Said' where nothing that the law and all that it calls make is longer than what came in: it says more and counts as full. Else prove '..UptoSaid'. A law counts once. -/
mutual
def uptoBulk {H : Type} : DataW H → Nat
  | .lit (.string bytes) => bytes.length + 1
  | .lit _ => 1
  | .nil => 1
  | .ptr d => uptoBulk d + 1
  | .slice elems spare => uptoBulkAll elems + uptoBulkAll spare + 1
  | .agg parts => uptoBulkAll parts + 1
  | .iface _ d => uptoBulk d + 1
  | .map entries => uptoBulkEntries entries + 1
  | .held _ => 1
def uptoBulkAll {H : Type} : List (DataW H) → Nat
  | [] => 0
  | d :: r => uptoBulk d + uptoBulkAll r
def uptoBulkEntries {H : Type} : List (Lit × DataW H) → Nat
  | [] => 0
  | x :: r => uptoBulkEntry x + uptoBulkEntries r
def uptoBulkEntry {H : Type} : Lit × DataW H → Nat
  | (.string bytes, d) => bytes.length + uptoBulk d + 1
  | (_, d) => uptoBulk d + 1
 end
def uptoSmall : (H : Type) → List (DataW H) → Bool := fun _ ds => decide (uptoBulkAll ds ≤ 1048576)
def OpenSpec.upto (s : _root_.Go.ChangeSpec) : _root_.Go.OpenSpec := { _root_.Go.OpenSpec.ofChange s with cond := some uptoSmall }

/-- 'cellularlaw24.PlanestepNews', WHERE WHAT IT READS IS OF BULK AT MOST 1048576: true; the input reads as it did. -/
def planestepNewsUptoRow : OpenClaim := { program := "ytiemhbogbaamlaa", sum := "ac07959af7edbcf4b0a026436d6cb943d63d670712d744e2784dc32508ba8829", func := "cellular/cellularlaw24.PlanestepNews", spec := "planestepNews", unfollowed := true, recurses := true, plainKeys := false, apart := false, narrowed := true }
def PlanestepNewsUptoSaid : Prop := planestepNewsUptoRow.holds Try.pinned (OpenSpec.upto planestepNewsSpec)

/-- 'cellularlaw24.PlanestepSteps', WHERE WHAT IT READS IS OF BULK AT MOST 1048576: true; the input reads as it did. -/
def planestepStepsUptoRow : OpenClaim := { program := "ytiemhbogbaamlaa", sum := "ac07959af7edbcf4b0a026436d6cb943d63d670712d744e2784dc32508ba8829", func := "cellular/cellularlaw24.PlanestepSteps", spec := "planestepSteps", unfollowed := true, recurses := true, plainKeys := false, apart := false, narrowed := true }
def PlanestepStepsUptoSaid : Prop := planestepStepsUptoRow.holds Try.pinned (OpenSpec.upto planestepStepsSpec)

/-- 'cellularlaw24.PlanestepRuns', WHERE WHAT IT READS IS OF BULK AT MOST 1048576: true; the input reads as it did. -/
def planestepRunsUptoRow : OpenClaim := { program := "ytiemhbogbaamlaa", sum := "ac07959af7edbcf4b0a026436d6cb943d63d670712d744e2784dc32508ba8829", func := "cellular/cellularlaw24.PlanestepRuns", spec := "planestepRuns", unfollowed := true, recurses := true, plainKeys := false, apart := false, narrowed := true }
def PlanestepRunsUptoSaid : Prop := planestepRunsUptoRow.holds Try.pinned (OpenSpec.upto planestepRunsSpec)

/-- 'cellularlaw24.PlanestepNil', WHERE WHAT IT READS IS OF BULK AT MOST 1048576: true; the input reads as it did. -/
def planestepNilUptoRow : OpenClaim := { program := "ytiemhbogbaamlaa", sum := "ac07959af7edbcf4b0a026436d6cb943d63d670712d744e2784dc32508ba8829", func := "cellular/cellularlaw24.PlanestepNil", spec := "planestepNil", unfollowed := true, recurses := true, plainKeys := false, apart := false, narrowed := true }
def PlanestepNilUptoSaid : Prop := planestepNilUptoRow.holds Try.pinned (OpenSpec.upto planestepNilSpec)

/-- 'cellularlaw24.PlanestepCells', WHERE WHAT IT READS IS OF BULK AT MOST 1048576: true; the input reads as it did. -/
def planestepCellsUptoRow : OpenClaim := { program := "ytiemhbogbaamlaa", sum := "ac07959af7edbcf4b0a026436d6cb943d63d670712d744e2784dc32508ba8829", func := "cellular/cellularlaw24.PlanestepCells", spec := "planestepCells", unfollowed := true, recurses := true, plainKeys := false, apart := false, narrowed := true }
def PlanestepCellsUptoSaid : Prop := planestepCellsUptoRow.holds Try.pinned (OpenSpec.upto planestepCellsSpec)

end Rows
end Go.Proofs.Ytiemhbogbaamlaa
