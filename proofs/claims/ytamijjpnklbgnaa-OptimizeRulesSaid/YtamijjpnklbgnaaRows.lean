/-
  No cell of these rows narrows 'for every input' (looked for: loops, veiled, ifaces, maps, wideKeys, modest, calm, conditions, laid).
  DERIVED. THE GIVEN ROWS OF THIS SEAT. 6 by the template 'for every input the law returns true; each argument reads behind the call as it read before'; 0 by the template 'total and deterministic' (their statements: YtamijjpnklbgnaaTotals.lean).
  GIVEN WITH THE SEED: the statements are not yours to turn. If you find one false, say at which input.
  Laid BY PROGRAM, IN A SANDBOX (cutbox-rows.mjs): the forced cells as the released guide's own fill.sh prints them over the translation 50704bfb14cc0634… (all of the seat's roots in one cut). By AI agents, Wed Nov 11 2026. No macro, syntax, notation, axiom, sorry.
-/
import Derived.Test.YtamijjpnklbgnaaChecked
import GoSem.Claim
import GoSem.ClaimJoined
import GoSem.ClaimMapViews
import Derived.JoinedTies
import Derived.KernelRfl
namespace Go.Proofs.Ytamijjpnklbgnaa
/- THE CELL 'sum', in the pinned program and in every row, IS THE sha256 OF THE DUMP (.gsa) THAT YtamijjpnklbgnaaProg.lean LOADS. Nothing in Lean hashes anything: it is a label: what it is worth is what the hold of that sum in a sandbox is worth. -/
noncomputable def Try.pinned : Pinned := { name := "ytamijjpnklbgnaa", sum := "50704bfb14cc0634040a3c3feef48b389662d286f7c0e5d1e8024813b405c24d", checked := Try.checked }
namespace Rows
def none {H : Type} : Left H := { results := [], args := [] }

/-- 'cellularlaw19.OptimizeSteps': WHATEVER THE INPUT: true; the input reads as it did. -/
def optimizeStepsSpec : ChangeSpec := { name := "optimizeSteps", fn := fun _ => fun
  | [d] => { results := [.lit (.bool true)], args := [d] }
  | _ => none }
def optimizeStepsRow : OpenClaim := { program := "ytamijjpnklbgnaa", sum := "50704bfb14cc0634040a3c3feef48b389662d286f7c0e5d1e8024813b405c24d", func := "cellular/cellularlaw19.OptimizeSteps", spec := "optimizeSteps", unfollowed := true, recurses := true, plainKeys := false, apart := false }
def OptimizeStepsSaid : Prop := optimizeStepsRow.holds Try.pinned (OpenSpec.ofChange optimizeStepsSpec)

/-- ITS FALSE NEIGHBOUR: 'it returns false'. Refute it at one input. -/
def optimizeStepsWrong : ChangeSpec := { name := "optimizeSteps", fn := fun _ => fun
  | [d] => { results := [.lit (.bool false)], args := [d] }
  | _ => none }
def OptimizeStepsWrongFalsely : Prop := optimizeStepsRow.holds Try.pinned (OpenSpec.ofChange optimizeStepsWrong)

/-- 'cellularlaw19.OptimizeAlls': WHATEVER THE INPUT: true; the input reads as it did. -/
def optimizeAllsSpec : ChangeSpec := { name := "optimizeAlls", fn := fun _ => fun
  | [d] => { results := [.lit (.bool true)], args := [d] }
  | _ => none }
def optimizeAllsRow : OpenClaim := { program := "ytamijjpnklbgnaa", sum := "50704bfb14cc0634040a3c3feef48b389662d286f7c0e5d1e8024813b405c24d", func := "cellular/cellularlaw19.OptimizeAlls", spec := "optimizeAlls", unfollowed := true, recurses := true, plainKeys := false, apart := false }
def OptimizeAllsSaid : Prop := optimizeAllsRow.holds Try.pinned (OpenSpec.ofChange optimizeAllsSpec)

/-- ITS FALSE NEIGHBOUR: 'it returns false'. Refute it at one input. -/
def optimizeAllsWrong : ChangeSpec := { name := "optimizeAlls", fn := fun _ => fun
  | [d] => { results := [.lit (.bool false)], args := [d] }
  | _ => none }
def OptimizeAllsWrongFalsely : Prop := optimizeAllsRow.holds Try.pinned (OpenSpec.ofChange optimizeAllsWrong)

/-- 'cellularlaw19.OptimizeFixed': WHATEVER THE INPUT: true; the input reads as it did. -/
def optimizeFixedSpec : ChangeSpec := { name := "optimizeFixed", fn := fun _ => fun
  | [d] => { results := [.lit (.bool true)], args := [d] }
  | _ => none }
def optimizeFixedRow : OpenClaim := { program := "ytamijjpnklbgnaa", sum := "50704bfb14cc0634040a3c3feef48b389662d286f7c0e5d1e8024813b405c24d", func := "cellular/cellularlaw19.OptimizeFixed", spec := "optimizeFixed", unfollowed := true, recurses := true, plainKeys := false, apart := false }
def OptimizeFixedSaid : Prop := optimizeFixedRow.holds Try.pinned (OpenSpec.ofChange optimizeFixedSpec)

/-- ITS FALSE NEIGHBOUR: 'it returns false'. Refute it at one input. -/
def optimizeFixedWrong : ChangeSpec := { name := "optimizeFixed", fn := fun _ => fun
  | [d] => { results := [.lit (.bool false)], args := [d] }
  | _ => none }
def OptimizeFixedWrongFalsely : Prop := optimizeFixedRow.holds Try.pinned (OpenSpec.ofChange optimizeFixedWrong)

/-- 'cellularlaw19.OptimizeForm': WHATEVER THE INPUT: true; the input reads as it did. -/
def optimizeFormSpec : ChangeSpec := { name := "optimizeForm", fn := fun _ => fun
  | [d] => { results := [.lit (.bool true)], args := [d] }
  | _ => none }
def optimizeFormRow : OpenClaim := { program := "ytamijjpnklbgnaa", sum := "50704bfb14cc0634040a3c3feef48b389662d286f7c0e5d1e8024813b405c24d", func := "cellular/cellularlaw19.OptimizeForm", spec := "optimizeForm", unfollowed := true, recurses := true, plainKeys := false, apart := false }
def OptimizeFormSaid : Prop := optimizeFormRow.holds Try.pinned (OpenSpec.ofChange optimizeFormSpec)

/-- ITS FALSE NEIGHBOUR: 'it returns false'. Refute it at one input. -/
def optimizeFormWrong : ChangeSpec := { name := "optimizeForm", fn := fun _ => fun
  | [d] => { results := [.lit (.bool false)], args := [d] }
  | _ => none }
def OptimizeFormWrongFalsely : Prop := optimizeFormRow.holds Try.pinned (OpenSpec.ofChange optimizeFormWrong)

/-- 'cellularlaw19.OptimizeKeeps': WHATEVER THE INPUT: true; the input reads as it did. -/
def optimizeKeepsSpec : ChangeSpec := { name := "optimizeKeeps", fn := fun _ => fun
  | [d1, d2] => { results := [.lit (.bool true)], args := [d1, d2] }
  | _ => none }
def optimizeKeepsRow : OpenClaim := { program := "ytamijjpnklbgnaa", sum := "50704bfb14cc0634040a3c3feef48b389662d286f7c0e5d1e8024813b405c24d", func := "cellular/cellularlaw19.OptimizeKeeps", spec := "optimizeKeeps", unfollowed := true, recurses := true, plainKeys := false, apart := false }
def OptimizeKeepsSaid : Prop := optimizeKeepsRow.holds Try.pinned (OpenSpec.ofChange optimizeKeepsSpec)

/-- ITS FALSE NEIGHBOUR: 'it returns false'. Refute it at one input. -/
def optimizeKeepsWrong : ChangeSpec := { name := "optimizeKeeps", fn := fun _ => fun
  | [d1, d2] => { results := [.lit (.bool false)], args := [d1, d2] }
  | _ => none }
def OptimizeKeepsWrongFalsely : Prop := optimizeKeepsRow.holds Try.pinned (OpenSpec.ofChange optimizeKeepsWrong)

/-- 'cellularlaw19.OptimizeRules': WHATEVER THE INPUT: true; the input reads as it did. -/
def optimizeRulesSpec : ChangeSpec := { name := "optimizeRules", fn := fun _ => fun
  | [d1, d2] => { results := [.lit (.bool true)], args := [d1, d2] }
  | _ => none }
def optimizeRulesRow : OpenClaim := { program := "ytamijjpnklbgnaa", sum := "50704bfb14cc0634040a3c3feef48b389662d286f7c0e5d1e8024813b405c24d", func := "cellular/cellularlaw19.OptimizeRules", spec := "optimizeRules", unfollowed := true, recurses := true, plainKeys := false, apart := false }
def OptimizeRulesSaid : Prop := optimizeRulesRow.holds Try.pinned (OpenSpec.ofChange optimizeRulesSpec)

/-- ITS FALSE NEIGHBOUR: 'it returns false'. Refute it at one input. -/
def optimizeRulesWrong : ChangeSpec := { name := "optimizeRules", fn := fun _ => fun
  | [d1, d2] => { results := [.lit (.bool false)], args := [d1, d2] }
  | _ => none }
def OptimizeRulesWrongFalsely : Prop := optimizeRulesRow.holds Try.pinned (OpenSpec.ofChange optimizeRulesWrong)

/- THE SECOND FORM. 'bulk': how many values and letters a reading holds, each counted each time it is reached (what is shared counts as often as it is met; a slice's spare places count too). A statement '..UptoSaid' is the law's where the arguments, and the package variables that the reading takes, are together of bulk at most 1048576: NARROWER than '..Said'. Prove '..Said' where nothing that the law and all that it calls make is longer than what came in: it says more and counts as full. Else prove '..UptoSaid'. A law counts once. -/
mutual
def uptoBulk {H : Type} : DataW H → Nat
  | .lit (.string bytes) => bytes.length + 1
  | .lit _ => 1
  | .nil => 1
  | .ptr d => uptoBulk d + 1
  | .slice elems spare => uptoBulkAll elems + uptoBulkAll spare + 1
  | .agg parts => uptoBulkAll parts + 1
  | .iface _ d => uptoBulk d + 1
  | .map entries => uptoBulkEntries entries + 1
  | .held _ => 1
def uptoBulkAll {H : Type} : List (DataW H) → Nat
  | [] => 0
  | d :: r => uptoBulk d + uptoBulkAll r
def uptoBulkEntries {H : Type} : List (Lit × DataW H) → Nat
  | [] => 0
  | x :: r => uptoBulkEntry x + uptoBulkEntries r
def uptoBulkEntry {H : Type} : Lit × DataW H → Nat
  | (.string bytes, d) => bytes.length + uptoBulk d + 1
  | (_, d) => uptoBulk d + 1
 end
def uptoSmall : (H : Type) → List (DataW H) → Bool := fun _ ds => decide (uptoBulkAll ds ≤ 1048576)
def OpenSpec.upto (s : _root_.Go.ChangeSpec) : _root_.Go.OpenSpec := { _root_.Go.OpenSpec.ofChange s with cond := some uptoSmall }

/-- 'cellularlaw19.OptimizeSteps', WHERE WHAT IT READS IS OF BULK AT MOST 1048576: true; the input reads as it did. -/
def optimizeStepsUptoRow : OpenClaim := { program := "ytamijjpnklbgnaa", sum := "50704bfb14cc0634040a3c3feef48b389662d286f7c0e5d1e8024813b405c24d", func := "cellular/cellularlaw19.OptimizeSteps", spec := "optimizeSteps", unfollowed := true, recurses := true, plainKeys := false, apart := false, narrowed := true }
def OptimizeStepsUptoSaid : Prop := optimizeStepsUptoRow.holds Try.pinned (OpenSpec.upto optimizeStepsSpec)

/-- 'cellularlaw19.OptimizeAlls', WHERE WHAT IT READS IS OF BULK AT MOST 1048576: true; the input reads as it did. -/
def optimizeAllsUptoRow : OpenClaim := { program := "ytamijjpnklbgnaa", sum := "50704bfb14cc0634040a3c3feef48b389662d286f7c0e5d1e8024813b405c24d", func := "cellular/cellularlaw19.OptimizeAlls", spec := "optimizeAlls", unfollowed := true, recurses := true, plainKeys := false, apart := false, narrowed := true }
def OptimizeAllsUptoSaid : Prop := optimizeAllsUptoRow.holds Try.pinned (OpenSpec.upto optimizeAllsSpec)

/-- 'cellularlaw19.OptimizeFixed', WHERE WHAT IT READS IS OF BULK AT MOST 1048576: true; the input reads as it did. -/
def optimizeFixedUptoRow : OpenClaim := { program := "ytamijjpnklbgnaa", sum := "50704bfb14cc0634040a3c3feef48b389662d286f7c0e5d1e8024813b405c24d", func := "cellular/cellularlaw19.OptimizeFixed", spec := "optimizeFixed", unfollowed := true, recurses := true, plainKeys := false, apart := false, narrowed := true }
def OptimizeFixedUptoSaid : Prop := optimizeFixedUptoRow.holds Try.pinned (OpenSpec.upto optimizeFixedSpec)

/-- 'cellularlaw19.OptimizeForm', WHERE WHAT IT READS IS OF BULK AT MOST 1048576: true; the input reads as it did. -/
def optimizeFormUptoRow : OpenClaim := { program := "ytamijjpnklbgnaa", sum := "50704bfb14cc0634040a3c3feef48b389662d286f7c0e5d1e8024813b405c24d", func := "cellular/cellularlaw19.OptimizeForm", spec := "optimizeForm", unfollowed := true, recurses := true, plainKeys := false, apart := false, narrowed := true }
def OptimizeFormUptoSaid : Prop := optimizeFormUptoRow.holds Try.pinned (OpenSpec.upto optimizeFormSpec)

/-- 'cellularlaw19.OptimizeKeeps', WHERE WHAT IT READS IS OF BULK AT MOST 1048576: true; the input reads as it did. -/
def optimizeKeepsUptoRow : OpenClaim := { program := "ytamijjpnklbgnaa", sum := "50704bfb14cc0634040a3c3feef48b389662d286f7c0e5d1e8024813b405c24d", func := "cellular/cellularlaw19.OptimizeKeeps", spec := "optimizeKeeps", unfollowed := true, recurses := true, plainKeys := false, apart := false, narrowed := true }
def OptimizeKeepsUptoSaid : Prop := optimizeKeepsUptoRow.holds Try.pinned (OpenSpec.upto optimizeKeepsSpec)

/-- 'cellularlaw19.OptimizeRules', WHERE WHAT IT READS IS OF BULK AT MOST 1048576: true; the input reads as it did. -/
def optimizeRulesUptoRow : OpenClaim := { program := "ytamijjpnklbgnaa", sum := "50704bfb14cc0634040a3c3feef48b389662d286f7c0e5d1e8024813b405c24d", func := "cellular/cellularlaw19.OptimizeRules", spec := "optimizeRules", unfollowed := true, recurses := true, plainKeys := false, apart := false, narrowed := true }
def OptimizeRulesUptoSaid : Prop := optimizeRulesUptoRow.holds Try.pinned (OpenSpec.upto optimizeRulesSpec)

end Rows
end Go.Proofs.Ytamijjpnklbgnaa
