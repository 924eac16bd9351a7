/-
  No cell of these rows narrows 'for every input' (looked for: loops, veiled, ifaces, maps, wideKeys, modest, calm, conditions, laid).
  DERIVED. THE GIVEN ROWS OF THIS SEAT. 6 by the template 'for every input the law returns true; each argument reads behind the call as it read before'; 0 by the template 'total and deterministic' (their statements: YtfknooffjhncgaaTotals.lean).
  GIVEN WITH THE SEED: the statements are not yours to turn. If you find one false, say at which input.
  Laid BY PROGRAM, IN A SANDBOX (cutbox-rows.mjs): the forced cells as the released guide's own fill.sh prints them over the translation 98567feb74e7886f… (all of the seat's roots in one cut). By AI agents, Wed Nov 11 2026. No macro, syntax, notation, axiom, sorry.
-/
import Derived.Test.YtfknooffjhncgaaChecked
import GoSem.Claim
import GoSem.ClaimJoined
import GoSem.ClaimMapViews
import Derived.JoinedTies
import Derived.KernelRfl
namespace Go.Proofs.Ytfknooffjhncgaa
/- THE CELL 'sum', in the pinned program and in every row, IS THE sha256 OF THE DUMP (.gsa) THAT YtfknooffjhncgaaProg.lean LOADS. Nothing in Lean hashes anything: it is a label: what it is worth is what the hold of that sum in a sandbox is worth. -/
noncomputable def Try.pinned : Pinned := { name := "ytfknooffjhncgaa", sum := "98567feb74e7886fac8f22fb9c1c17a7934399e84080acd670d5f43e0f48d34d", checked := Try.checked }
namespace Rows
def none {H : Type} : Left H := { results := [], args := [] }

/-- 'cellularlaw23.PlanePacks': WHATEVER THE INPUT: true; the input reads as it did. -/
def planePacksSpec : ChangeSpec := { name := "planePacks", fn := fun _ => fun
  | [d1, d2] => { results := [.lit (.bool true)], args := [d1, d2] }
  | _ => none }
def planePacksRow : OpenClaim := { program := "ytfknooffjhncgaa", sum := "98567feb74e7886fac8f22fb9c1c17a7934399e84080acd670d5f43e0f48d34d", func := "cellular/cellularlaw23.PlanePacks", spec := "planePacks", unfollowed := true, recurses := true, apart := false }
def PlanePacksSaid : Prop := planePacksRow.holds Try.pinned (OpenSpec.ofChange planePacksSpec)

/-- ITS FALSE NEIGHBOUR: 'it returns false'. Refute it at one input. -/
def planePacksWrong : ChangeSpec := { name := "planePacks", fn := fun _ => fun
  | [d1, d2] => { results := [.lit (.bool false)], args := [d1, d2] }
  | _ => none }
def PlanePacksWrongFalsely : Prop := planePacksRow.holds Try.pinned (OpenSpec.ofChange planePacksWrong)

/-- 'cellularlaw23.PlaneRights': WHATEVER THE INPUT: true; the input reads as it did. -/
def planeRightsSpec : ChangeSpec := { name := "planeRights", fn := fun _ => fun
  | [d1, d2] => { results := [.lit (.bool true)], args := [d1, d2] }
  | _ => none }
def planeRightsRow : OpenClaim := { program := "ytfknooffjhncgaa", sum := "98567feb74e7886fac8f22fb9c1c17a7934399e84080acd670d5f43e0f48d34d", func := "cellular/cellularlaw23.PlaneRights", spec := "planeRights", unfollowed := true, recurses := true, apart := false }
def PlaneRightsSaid : Prop := planeRightsRow.holds Try.pinned (OpenSpec.ofChange planeRightsSpec)

/-- ITS FALSE NEIGHBOUR: 'it returns false'. Refute it at one input. -/
def planeRightsWrong : ChangeSpec := { name := "planeRights", fn := fun _ => fun
  | [d1, d2] => { results := [.lit (.bool false)], args := [d1, d2] }
  | _ => none }
def PlaneRightsWrongFalsely : Prop := planeRightsRow.holds Try.pinned (OpenSpec.ofChange planeRightsWrong)

/-- 'cellularlaw23.PlaneMoves': WHATEVER THE INPUT: true; the input reads as it did. -/
def planeMovesSpec : ChangeSpec := { name := "planeMoves", fn := fun _ => fun
  | [d1, d2, d3] => { results := [.lit (.bool true)], args := [d1, d2, d3] }
  | _ => none }
def planeMovesRow : OpenClaim := { program := "ytfknooffjhncgaa", sum := "98567feb74e7886fac8f22fb9c1c17a7934399e84080acd670d5f43e0f48d34d", func := "cellular/cellularlaw23.PlaneMoves", spec := "planeMoves", unfollowed := true, recurses := true, apart := false }
def PlaneMovesSaid : Prop := planeMovesRow.holds Try.pinned (OpenSpec.ofChange planeMovesSpec)

/-- ITS FALSE NEIGHBOUR: 'it returns false'. Refute it at one input. -/
def planeMovesWrong : ChangeSpec := { name := "planeMoves", fn := fun _ => fun
  | [d1, d2, d3] => { results := [.lit (.bool false)], args := [d1, d2, d3] }
  | _ => none }
def PlaneMovesWrongFalsely : Prop := planeMovesRow.holds Try.pinned (OpenSpec.ofChange planeMovesWrong)

/-- 'cellularlaw23.PlaneReturns': WHATEVER THE INPUT: true; the input reads as it did. -/
def planeReturnsSpec : ChangeSpec := { name := "planeReturns", fn := fun _ => fun
  | [d1, d2, d3] => { results := [.lit (.bool true)], args := [d1, d2, d3] }
  | _ => none }
def planeReturnsRow : OpenClaim := { program := "ytfknooffjhncgaa", sum := "98567feb74e7886fac8f22fb9c1c17a7934399e84080acd670d5f43e0f48d34d", func := "cellular/cellularlaw23.PlaneReturns", spec := "planeReturns", unfollowed := true, recurses := true, apart := false }
def PlaneReturnsSaid : Prop := planeReturnsRow.holds Try.pinned (OpenSpec.ofChange planeReturnsSpec)

/-- ITS FALSE NEIGHBOUR: 'it returns false'. Refute it at one input. -/
def planeReturnsWrong : ChangeSpec := { name := "planeReturns", fn := fun _ => fun
  | [d1, d2, d3] => { results := [.lit (.bool false)], args := [d1, d2, d3] }
  | _ => none }
def PlaneReturnsWrongFalsely : Prop := planeReturnsRow.holds Try.pinned (OpenSpec.ofChange planeReturnsWrong)

/-- 'cellularlaw23.PlaneTorus': WHATEVER THE INPUT: true; the input reads as it did. -/
def planeTorusSpec : ChangeSpec := { name := "planeTorus", fn := fun _ => fun
  | [d1, d2, d3] => { results := [.lit (.bool true)], args := [d1, d2, d3] }
  | _ => none }
def planeTorusRow : OpenClaim := { program := "ytfknooffjhncgaa", sum := "98567feb74e7886fac8f22fb9c1c17a7934399e84080acd670d5f43e0f48d34d", func := "cellular/cellularlaw23.PlaneTorus", spec := "planeTorus", unfollowed := true, recurses := true, apart := false }
def PlaneTorusSaid : Prop := planeTorusRow.holds Try.pinned (OpenSpec.ofChange planeTorusSpec)

/-- ITS FALSE NEIGHBOUR: 'it returns false'. Refute it at one input. -/
def planeTorusWrong : ChangeSpec := { name := "planeTorus", fn := fun _ => fun
  | [d1, d2, d3] => { results := [.lit (.bool false)], args := [d1, d2, d3] }
  | _ => none }
def PlaneTorusWrongFalsely : Prop := planeTorusRow.holds Try.pinned (OpenSpec.ofChange planeTorusWrong)

/-- 'cellularlaw23.PlaneCells': WHATEVER THE INPUT: true; the input reads as it did. -/
def planeCellsSpec : ChangeSpec := { name := "planeCells", fn := fun _ => fun
  | [d1, d2, d3] => { results := [.lit (.bool true)], args := [d1, d2, d3] }
  | _ => none }
def planeCellsRow : OpenClaim := { program := "ytfknooffjhncgaa", sum := "98567feb74e7886fac8f22fb9c1c17a7934399e84080acd670d5f43e0f48d34d", func := "cellular/cellularlaw23.PlaneCells", spec := "planeCells", unfollowed := true, recurses := true, apart := false }
def PlaneCellsSaid : Prop := planeCellsRow.holds Try.pinned (OpenSpec.ofChange planeCellsSpec)

/-- ITS FALSE NEIGHBOUR: 'it returns false'. Refute it at one input. -/
def planeCellsWrong : ChangeSpec := { name := "planeCells", fn := fun _ => fun
  | [d1, d2, d3] => { results := [.lit (.bool false)], args := [d1, d2, d3] }
  | _ => none }
def PlaneCellsWrongFalsely : Prop := planeCellsRow.holds Try.pinned (OpenSpec.ofChange planeCellsWrong)

/- THE SECOND FORM. 'bulk': how many values and letters a reading holds, each counted each time it is reached (what is shared counts as often as it is met; a slice's spare places count too). A statement '..UptoSaid' is the law's where the arguments, and the package variables that the reading takes, are together of bulk at most 1048576: NARROWER than '..Said'. Prove '..Said' where nothing that the law and all that it calls make is longer than what came in: it says more and counts as full. Else prove '..UptoSaid'. A law counts once. -/
mutual
def uptoBulk {H : Type} : DataW H → Nat
  | .lit (.string bytes) => bytes.length + 1
  | .lit _ => 1
  | .nil => 1
  | .ptr d => uptoBulk d + 1
  | .slice elems spare => uptoBulkAll elems + uptoBulkAll spare + 1
  | .agg parts => uptoBulkAll parts + 1
  | .iface _ d => uptoBulk d + 1
  | .map entries => uptoBulkEntries entries + 1
  | .held _ => 1
def uptoBulkAll {H : Type} : List (DataW H) → Nat
  | [] => 0
  | d :: r => uptoBulk d + uptoBulkAll r
def uptoBulkEntries {H : Type} : List (Lit × DataW H) → Nat
  | [] => 0
  | x :: r => uptoBulkEntry x + uptoBulkEntries r
def uptoBulkEntry {H : Type} : Lit × DataW H → Nat
  | (.string bytes, d) => bytes.length + uptoBulk d + 1
  | (_, d) => uptoBulk d + 1
 end
def uptoSmall : (H : Type) → List (DataW H) → Bool := fun _ ds => decide (uptoBulkAll ds ≤ 1048576)
def OpenSpec.upto (s : _root_.Go.ChangeSpec) : _root_.Go.OpenSpec := { _root_.Go.OpenSpec.ofChange s with cond := some uptoSmall }

/-- 'cellularlaw23.PlanePacks', WHERE WHAT IT READS IS OF BULK AT MOST 1048576: true; the input reads as it did. -/
def planePacksUptoRow : OpenClaim := { program := "ytfknooffjhncgaa", sum := "98567feb74e7886fac8f22fb9c1c17a7934399e84080acd670d5f43e0f48d34d", func := "cellular/cellularlaw23.PlanePacks", spec := "planePacks", unfollowed := true, recurses := true, apart := false, narrowed := true }
def PlanePacksUptoSaid : Prop := planePacksUptoRow.holds Try.pinned (OpenSpec.upto planePacksSpec)

/-- 'cellularlaw23.PlaneRights', WHERE WHAT IT READS IS OF BULK AT MOST 1048576: true; the input reads as it did. -/
def planeRightsUptoRow : OpenClaim := { program := "ytfknooffjhncgaa", sum := "98567feb74e7886fac8f22fb9c1c17a7934399e84080acd670d5f43e0f48d34d", func := "cellular/cellularlaw23.PlaneRights", spec := "planeRights", unfollowed := true, recurses := true, apart := false, narrowed := true }
def PlaneRightsUptoSaid : Prop := planeRightsUptoRow.holds Try.pinned (OpenSpec.upto planeRightsSpec)

/-- 'cellularlaw23.PlaneMoves', WHERE WHAT IT READS IS OF BULK AT MOST 1048576: true; the input reads as it did. -/
def planeMovesUptoRow : OpenClaim := { program := "ytfknooffjhncgaa", sum := "98567feb74e7886fac8f22fb9c1c17a7934399e84080acd670d5f43e0f48d34d", func := "cellular/cellularlaw23.PlaneMoves", spec := "planeMoves", unfollowed := true, recurses := true, apart := false, narrowed := true }
def PlaneMovesUptoSaid : Prop := planeMovesUptoRow.holds Try.pinned (OpenSpec.upto planeMovesSpec)

/-- 'cellularlaw23.PlaneReturns', WHERE WHAT IT READS IS OF BULK AT MOST 1048576: true; the input reads as it did. -/
def planeReturnsUptoRow : OpenClaim := { program := "ytfknooffjhncgaa", sum := "98567feb74e7886fac8f22fb9c1c17a7934399e84080acd670d5f43e0f48d34d", func := "cellular/cellularlaw23.PlaneReturns", spec := "planeReturns", unfollowed := true, recurses := true, apart := false, narrowed := true }
def PlaneReturnsUptoSaid : Prop := planeReturnsUptoRow.holds Try.pinned (OpenSpec.upto planeReturnsSpec)

/-- 'cellularlaw23.PlaneTorus', WHERE WHAT IT READS IS OF BULK AT MOST 1048576: true; the input reads as it did. -/
def planeTorusUptoRow : OpenClaim := { program := "ytfknooffjhncgaa", sum := "98567feb74e7886fac8f22fb9c1c17a7934399e84080acd670d5f43e0f48d34d", func := "cellular/cellularlaw23.PlaneTorus", spec := "planeTorus", unfollowed := true, recurses := true, apart := false, narrowed := true }
def PlaneTorusUptoSaid : Prop := planeTorusUptoRow.holds Try.pinned (OpenSpec.upto planeTorusSpec)

/-- 'cellularlaw23.PlaneCells', WHERE WHAT IT READS IS OF BULK AT MOST 1048576: true; the input reads as it did. -/
def planeCellsUptoRow : OpenClaim := { program := "ytfknooffjhncgaa", sum := "98567feb74e7886fac8f22fb9c1c17a7934399e84080acd670d5f43e0f48d34d", func := "cellular/cellularlaw23.PlaneCells", spec := "planeCells", unfollowed := true, recurses := true, apart := false, narrowed := true }
def PlaneCellsUptoSaid : Prop := planeCellsUptoRow.holds Try.pinned (OpenSpec.upto planeCellsSpec)

end Rows
end Go.Proofs.Ytfknooffjhncgaa
