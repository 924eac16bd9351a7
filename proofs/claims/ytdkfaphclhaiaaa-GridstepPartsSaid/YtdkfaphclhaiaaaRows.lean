/-
  No cell of these rows narrows 'for every input' (looked for: loops, veiled, ifaces, maps, wideKeys, modest, calm, conditions, laid).
  DERIVED. THE GIVEN ROWS OF THIS SEAT. 6 by the template 'for every input the law returns true; each argument reads behind the call as it read before'; 0 by the template 'total and deterministic' (their statements: YtdkfaphclhaiaaaTotals.lean).
  GIVEN WITH THE SEED: the statements are not yours to turn. If you find one false, say at which input.
  Laid BY PROGRAM, IN A SANDBOX (cutbox-rows.mjs): the forced cells as the released guide's own fill.sh prints them over the translation 323afa4dbe94585a… (all of the seat's roots in one cut). By AI agents, Wed Nov 11 2026. No macro, syntax, notation, axiom, sorry.
-/
import Derived.Test.YtdkfaphclhaiaaaChecked
import GoSem.Claim
import GoSem.ClaimJoined
import GoSem.ClaimMapViews
import Derived.JoinedTies
import Derived.KernelRfl
namespace Go.Proofs.Ytdkfaphclhaiaaa
/- THE CELL 'sum', in the pinned program and in every row, IS THE sha256 OF THE DUMP (.gsa) THAT YtdkfaphclhaiaaaProg.lean LOADS. Nothing in Lean hashes anything: it is a label: what it is worth is what the hold of that sum in a sandbox is worth. -/
noncomputable def Try.pinned : Pinned := { name := "ytdkfaphclhaiaaa", sum := "323afa4dbe94585a5c427af983203e09101b215234f51098a617bd4b11934143", checked := Try.checked }
namespace Rows
def none {H : Type} : Left H := { results := [], args := [] }

/-- 'cellularlaw22.GridstepStep': WHATEVER THE INPUT: true; the input reads as it did. -/
def gridstepStepSpec : ChangeSpec := { name := "gridstepStep", fn := fun _ => fun
  | [d1, d2] => { results := [.lit (.bool true)], args := [d1, d2] }
  | _ => none }
def gridstepStepRow : OpenClaim := { program := "ytdkfaphclhaiaaa", sum := "323afa4dbe94585a5c427af983203e09101b215234f51098a617bd4b11934143", func := "cellular/cellularlaw22.GridstepStep", spec := "gridstepStep", unfollowed := true, recurses := true, apart := false }
def GridstepStepSaid : Prop := gridstepStepRow.holds Try.pinned (OpenSpec.ofChange gridstepStepSpec)

/-- ITS FALSE NEIGHBOUR: 'it returns false'. Refute it at one input. -/
def gridstepStepWrong : ChangeSpec := { name := "gridstepStep", fn := fun _ => fun
  | [d1, d2] => { results := [.lit (.bool false)], args := [d1, d2] }
  | _ => none }
def GridstepStepWrongFalsely : Prop := gridstepStepRow.holds Try.pinned (OpenSpec.ofChange gridstepStepWrong)

/-- 'cellularlaw22.GridstepRun': WHATEVER THE INPUT: true; the input reads as it did. -/
def gridstepRunSpec : ChangeSpec := { name := "gridstepRun", fn := fun _ => fun
  | [d1, d2, d3] => { results := [.lit (.bool true)], args := [d1, d2, d3] }
  | _ => none }
def gridstepRunRow : OpenClaim := { program := "ytdkfaphclhaiaaa", sum := "323afa4dbe94585a5c427af983203e09101b215234f51098a617bd4b11934143", func := "cellular/cellularlaw22.GridstepRun", spec := "gridstepRun", unfollowed := true, recurses := true, apart := false }
def GridstepRunSaid : Prop := gridstepRunRow.holds Try.pinned (OpenSpec.ofChange gridstepRunSpec)

/-- ITS FALSE NEIGHBOUR: 'it returns false'. Refute it at one input. -/
def gridstepRunWrong : ChangeSpec := { name := "gridstepRun", fn := fun _ => fun
  | [d1, d2, d3] => { results := [.lit (.bool false)], args := [d1, d2, d3] }
  | _ => none }
def GridstepRunWrongFalsely : Prop := gridstepRunRow.holds Try.pinned (OpenSpec.ofChange gridstepRunWrong)

/-- 'cellularlaw22.GridstepCycle': WHATEVER THE INPUT: true; the input reads as it did. -/
def gridstepCycleSpec : ChangeSpec := { name := "gridstepCycle", fn := fun _ => fun
  | [d1, d2, d3] => { results := [.lit (.bool true)], args := [d1, d2, d3] }
  | _ => none }
def gridstepCycleRow : OpenClaim := { program := "ytdkfaphclhaiaaa", sum := "323afa4dbe94585a5c427af983203e09101b215234f51098a617bd4b11934143", func := "cellular/cellularlaw22.GridstepCycle", spec := "gridstepCycle", unfollowed := true, recurses := true, apart := false }
def GridstepCycleSaid : Prop := gridstepCycleRow.holds Try.pinned (OpenSpec.ofChange gridstepCycleSpec)

/-- ITS FALSE NEIGHBOUR: 'it returns false'. Refute it at one input. -/
def gridstepCycleWrong : ChangeSpec := { name := "gridstepCycle", fn := fun _ => fun
  | [d1, d2, d3] => { results := [.lit (.bool false)], args := [d1, d2, d3] }
  | _ => none }
def GridstepCycleWrongFalsely : Prop := gridstepCycleRow.holds Try.pinned (OpenSpec.ofChange gridstepCycleWrong)

/-- 'cellularlaw22.GridstepGarden': WHATEVER THE INPUT: true; the input reads as it did. -/
def gridstepGardenSpec : ChangeSpec := { name := "gridstepGarden", fn := fun _ => fun
  | [d1, d2] => { results := [.lit (.bool true)], args := [d1, d2] }
  | _ => none }
def gridstepGardenRow : OpenClaim := { program := "ytdkfaphclhaiaaa", sum := "323afa4dbe94585a5c427af983203e09101b215234f51098a617bd4b11934143", func := "cellular/cellularlaw22.GridstepGarden", spec := "gridstepGarden", unfollowed := true, recurses := true, apart := false }
def GridstepGardenSaid : Prop := gridstepGardenRow.holds Try.pinned (OpenSpec.ofChange gridstepGardenSpec)

/-- ITS FALSE NEIGHBOUR: 'it returns false'. Refute it at one input. -/
def gridstepGardenWrong : ChangeSpec := { name := "gridstepGarden", fn := fun _ => fun
  | [d1, d2] => { results := [.lit (.bool false)], args := [d1, d2] }
  | _ => none }
def GridstepGardenWrongFalsely : Prop := gridstepGardenRow.holds Try.pinned (OpenSpec.ofChange gridstepGardenWrong)

/-- 'cellularlaw22.GridstepParts': WHATEVER THE INPUT: true; the input reads as it did. -/
def gridstepPartsSpec : ChangeSpec := { name := "gridstepParts", fn := fun _ => fun
  | [d1, d2, d3] => { results := [.lit (.bool true)], args := [d1, d2, d3] }
  | _ => none }
def gridstepPartsRow : OpenClaim := { program := "ytdkfaphclhaiaaa", sum := "323afa4dbe94585a5c427af983203e09101b215234f51098a617bd4b11934143", func := "cellular/cellularlaw22.GridstepParts", spec := "gridstepParts", unfollowed := true, recurses := true, apart := false }
def GridstepPartsSaid : Prop := gridstepPartsRow.holds Try.pinned (OpenSpec.ofChange gridstepPartsSpec)

/-- ITS FALSE NEIGHBOUR: 'it returns false'. Refute it at one input. -/
def gridstepPartsWrong : ChangeSpec := { name := "gridstepParts", fn := fun _ => fun
  | [d1, d2, d3] => { results := [.lit (.bool false)], args := [d1, d2, d3] }
  | _ => none }
def GridstepPartsWrongFalsely : Prop := gridstepPartsRow.holds Try.pinned (OpenSpec.ofChange gridstepPartsWrong)

/-- 'cellularlaw22.GridstepRolls': WHATEVER THE INPUT: true; the input reads as it did. -/
def gridstepRollsSpec : ChangeSpec := { name := "gridstepRolls", fn := fun _ => fun
  | [d1, d2, d3] => { results := [.lit (.bool true)], args := [d1, d2, d3] }
  | _ => none }
def gridstepRollsRow : OpenClaim := { program := "ytdkfaphclhaiaaa", sum := "323afa4dbe94585a5c427af983203e09101b215234f51098a617bd4b11934143", func := "cellular/cellularlaw22.GridstepRolls", spec := "gridstepRolls", unfollowed := true, recurses := true, apart := false }
def GridstepRollsSaid : Prop := gridstepRollsRow.holds Try.pinned (OpenSpec.ofChange gridstepRollsSpec)

/-- ITS FALSE NEIGHBOUR: 'it returns false'. Refute it at one input. -/
def gridstepRollsWrong : ChangeSpec := { name := "gridstepRolls", fn := fun _ => fun
  | [d1, d2, d3] => { results := [.lit (.bool false)], args := [d1, d2, d3] }
  | _ => none }
def GridstepRollsWrongFalsely : Prop := gridstepRollsRow.holds Try.pinned (OpenSpec.ofChange gridstepRollsWrong)

/- THE SECOND FORM. 'bulk': how many values and letters a reading holds, each counted each time it is reached (what is shared counts as often as it is met; a slice's spare places count too). A statement '..UptoSaid' is the law's where the arguments, and the package variables that the reading takes, are together of bulk at most 1048576: NARROWER than '..Said'. Prove '..Said' where nothing that the law and all that it calls make is longer than what came in: it says more and counts as full. Else prove '..UptoSaid'. A law counts once. -/
mutual
def uptoBulk {H : Type} : DataW H → Nat
  | .lit (.string bytes) => bytes.length + 1
  | .lit _ => 1
  | .nil => 1
  | .ptr d => uptoBulk d + 1
  | .slice elems spare => uptoBulkAll elems + uptoBulkAll spare + 1
  | .agg parts => uptoBulkAll parts + 1
  | .iface _ d => uptoBulk d + 1
  | .map entries => uptoBulkEntries entries + 1
  | .held _ => 1
def uptoBulkAll {H : Type} : List (DataW H) → Nat
  | [] => 0
  | d :: r => uptoBulk d + uptoBulkAll r
def uptoBulkEntries {H : Type} : List (Lit × DataW H) → Nat
  | [] => 0
  | x :: r => uptoBulkEntry x + uptoBulkEntries r
def uptoBulkEntry {H : Type} : Lit × DataW H → Nat
  | (.string bytes, d) => bytes.length + uptoBulk d + 1
  | (_, d) => uptoBulk d + 1
 end
def uptoSmall : (H : Type) → List (DataW H) → Bool := fun _ ds => decide (uptoBulkAll ds ≤ 1048576)
def OpenSpec.upto (s : _root_.Go.ChangeSpec) : _root_.Go.OpenSpec := { _root_.Go.OpenSpec.ofChange s with cond := some uptoSmall }

/-- 'cellularlaw22.GridstepStep', WHERE WHAT IT READS IS OF BULK AT MOST 1048576: true; the input reads as it did. -/
def gridstepStepUptoRow : OpenClaim := { program := "ytdkfaphclhaiaaa", sum := "323afa4dbe94585a5c427af983203e09101b215234f51098a617bd4b11934143", func := "cellular/cellularlaw22.GridstepStep", spec := "gridstepStep", unfollowed := true, recurses := true, apart := false, narrowed := true }
def GridstepStepUptoSaid : Prop := gridstepStepUptoRow.holds Try.pinned (OpenSpec.upto gridstepStepSpec)

/-- 'cellularlaw22.GridstepRun', WHERE WHAT IT READS IS OF BULK AT MOST 1048576: true; the input reads as it did. -/
def gridstepRunUptoRow : OpenClaim := { program := "ytdkfaphclhaiaaa", sum := "323afa4dbe94585a5c427af983203e09101b215234f51098a617bd4b11934143", func := "cellular/cellularlaw22.GridstepRun", spec := "gridstepRun", unfollowed := true, recurses := true, apart := false, narrowed := true }
def GridstepRunUptoSaid : Prop := gridstepRunUptoRow.holds Try.pinned (OpenSpec.upto gridstepRunSpec)

/-- 'cellularlaw22.GridstepCycle', WHERE WHAT IT READS IS OF BULK AT MOST 1048576: true; the input reads as it did. -/
def gridstepCycleUptoRow : OpenClaim := { program := "ytdkfaphclhaiaaa", sum := "323afa4dbe94585a5c427af983203e09101b215234f51098a617bd4b11934143", func := "cellular/cellularlaw22.GridstepCycle", spec := "gridstepCycle", unfollowed := true, recurses := true, apart := false, narrowed := true }
def GridstepCycleUptoSaid : Prop := gridstepCycleUptoRow.holds Try.pinned (OpenSpec.upto gridstepCycleSpec)

/-- 'cellularlaw22.GridstepGarden', WHERE WHAT IT READS IS OF BULK AT MOST 1048576: true; the input reads as it did. -/
def gridstepGardenUptoRow : OpenClaim := { program := "ytdkfaphclhaiaaa", sum := "323afa4dbe94585a5c427af983203e09101b215234f51098a617bd4b11934143", func := "cellular/cellularlaw22.GridstepGarden", spec := "gridstepGarden", unfollowed := true, recurses := true, apart := false, narrowed := true }
def GridstepGardenUptoSaid : Prop := gridstepGardenUptoRow.holds Try.pinned (OpenSpec.upto gridstepGardenSpec)

/-- 'cellularlaw22.GridstepParts', WHERE WHAT IT READS IS OF BULK AT MOST 1048576: true; the input reads as it did. -/
def gridstepPartsUptoRow : OpenClaim := { program := "ytdkfaphclhaiaaa", sum := "323afa4dbe94585a5c427af983203e09101b215234f51098a617bd4b11934143", func := "cellular/cellularlaw22.GridstepParts", spec := "gridstepParts", unfollowed := true, recurses := true, apart := false, narrowed := true }
def GridstepPartsUptoSaid : Prop := gridstepPartsUptoRow.holds Try.pinned (OpenSpec.upto gridstepPartsSpec)

/-- 'cellularlaw22.GridstepRolls', WHERE WHAT IT READS IS OF BULK AT MOST 1048576: true; the input reads as it did. -/
def gridstepRollsUptoRow : OpenClaim := { program := "ytdkfaphclhaiaaa", sum := "323afa4dbe94585a5c427af983203e09101b215234f51098a617bd4b11934143", func := "cellular/cellularlaw22.GridstepRolls", spec := "gridstepRolls", unfollowed := true, recurses := true, apart := false, narrowed := true }
def GridstepRollsUptoSaid : Prop := gridstepRollsUptoRow.holds Try.pinned (OpenSpec.upto gridstepRollsSpec)

end Rows
end Go.Proofs.Ytdkfaphclhaiaaa
