/-
  No cell of these rows narrows 'for every input' (looked for: loops, veiled, ifaces, maps, wideKeys, modest, calm, conditions, laid).
  DERIVED. THE GIVEN ROWS OF THIS SEAT. 6 by the template 'for every input the law returns true; each argument reads behind the call as it read before'; 0 by the template 'total and deterministic' (their statements: YthmkcckoeodhnaaTotals.lean).
  GIVEN WITH THE SEED: the statements are not yours to turn. If you find one false, say at which input.
  Laid BY PROGRAM, IN A SANDBOX (cutbox-rows.mjs): the forced cells as the released guide's own fill.sh prints them over the translation a132f7b936ac7a69… (all of the seat's roots in one cut). By AI agents, Wed Nov 11 2026. No macro, syntax, notation, axiom, sorry.
-/
import Derived.Test.YthmkcckoeodhnaaChecked
import GoSem.Claim
import GoSem.ClaimJoined
import GoSem.ClaimMapViews
import Derived.JoinedTies
import Derived.KernelRfl
namespace Go.Proofs.Ythmkcckoeodhnaa
/- THE CELL 'sum', in the pinned program and in every row, IS THE sha256 OF THE DUMP (.gsa) THAT YthmkcckoeodhnaaProg.lean LOADS. Nothing in Lean hashes anything: it is a label: what it is worth is what the hold of that sum in a sandbox is worth. -/
noncomputable def Try.pinned : Pinned := { name := "ythmkcckoeodhnaa", sum := "a132f7b936ac7a69271d8634f8985ff68cb461a0209a682858e7d69d99789dcb", checked := Try.checked }
namespace Rows
def none {H : Type} : Left H := { results := [], args := [] }

/-- 'cellularlaw17.CircuitRight': WHATEVER THE INPUT: true; the input reads as it did. -/
def circuitRightSpec : ChangeSpec := { name := "circuitRight", fn := fun _ => fun
  | [d] => { results := [.lit (.bool true)], args := [d] }
  | _ => none }
def circuitRightRow : OpenClaim := { program := "ythmkcckoeodhnaa", sum := "a132f7b936ac7a69271d8634f8985ff68cb461a0209a682858e7d69d99789dcb", func := "cellular/cellularlaw17.CircuitRight", spec := "circuitRight", unfollowed := true, recurses := true, apart := false }
def CircuitRightSaid : Prop := circuitRightRow.holds Try.pinned (OpenSpec.ofChange circuitRightSpec)

/-- ITS FALSE NEIGHBOUR: 'it returns false'. Refute it at one input. -/
def circuitRightWrong : ChangeSpec := { name := "circuitRight", fn := fun _ => fun
  | [d] => { results := [.lit (.bool false)], args := [d] }
  | _ => none }
def CircuitRightWrongFalsely : Prop := circuitRightRow.holds Try.pinned (OpenSpec.ofChange circuitRightWrong)

/-- 'cellularlaw17.CircuitEvals': WHATEVER THE INPUT: true; the input reads as it did. -/
def circuitEvalsSpec : ChangeSpec := { name := "circuitEvals", fn := fun _ => fun
  | [d1, d2] => { results := [.lit (.bool true)], args := [d1, d2] }
  | _ => none }
def circuitEvalsRow : OpenClaim := { program := "ythmkcckoeodhnaa", sum := "a132f7b936ac7a69271d8634f8985ff68cb461a0209a682858e7d69d99789dcb", func := "cellular/cellularlaw17.CircuitEvals", spec := "circuitEvals", unfollowed := true, recurses := true, apart := false }
def CircuitEvalsSaid : Prop := circuitEvalsRow.holds Try.pinned (OpenSpec.ofChange circuitEvalsSpec)

/-- ITS FALSE NEIGHBOUR: 'it returns false'. Refute it at one input. -/
def circuitEvalsWrong : ChangeSpec := { name := "circuitEvals", fn := fun _ => fun
  | [d1, d2] => { results := [.lit (.bool false)], args := [d1, d2] }
  | _ => none }
def CircuitEvalsWrongFalsely : Prop := circuitEvalsRow.holds Try.pinned (OpenSpec.ofChange circuitEvalsWrong)

/-- 'cellularlaw17.CircuitWords': WHATEVER THE INPUT: true; the input reads as it did. -/
def circuitWordsSpec : ChangeSpec := { name := "circuitWords", fn := fun _ => fun
  | [d1, d2] => { results := [.lit (.bool true)], args := [d1, d2] }
  | _ => none }
def circuitWordsRow : OpenClaim := { program := "ythmkcckoeodhnaa", sum := "a132f7b936ac7a69271d8634f8985ff68cb461a0209a682858e7d69d99789dcb", func := "cellular/cellularlaw17.CircuitWords", spec := "circuitWords", unfollowed := true, recurses := true, apart := false }
def CircuitWordsSaid : Prop := circuitWordsRow.holds Try.pinned (OpenSpec.ofChange circuitWordsSpec)

/-- ITS FALSE NEIGHBOUR: 'it returns false'. Refute it at one input. -/
def circuitWordsWrong : ChangeSpec := { name := "circuitWords", fn := fun _ => fun
  | [d1, d2] => { results := [.lit (.bool false)], args := [d1, d2] }
  | _ => none }
def CircuitWordsWrongFalsely : Prop := circuitWordsRow.holds Try.pinned (OpenSpec.ofChange circuitWordsWrong)

/-- 'cellularlaw17.CircuitJoins': WHATEVER THE INPUT: true; the input reads as it did. -/
def circuitJoinsSpec : ChangeSpec := { name := "circuitJoins", fn := fun _ => fun
  | [d1, d2] => { results := [.lit (.bool true)], args := [d1, d2] }
  | _ => none }
def circuitJoinsRow : OpenClaim := { program := "ythmkcckoeodhnaa", sum := "a132f7b936ac7a69271d8634f8985ff68cb461a0209a682858e7d69d99789dcb", func := "cellular/cellularlaw17.CircuitJoins", spec := "circuitJoins", unfollowed := true, recurses := true, apart := false }
def CircuitJoinsSaid : Prop := circuitJoinsRow.holds Try.pinned (OpenSpec.ofChange circuitJoinsSpec)

/-- ITS FALSE NEIGHBOUR: 'it returns false'. Refute it at one input. -/
def circuitJoinsWrong : ChangeSpec := { name := "circuitJoins", fn := fun _ => fun
  | [d1, d2] => { results := [.lit (.bool false)], args := [d1, d2] }
  | _ => none }
def CircuitJoinsWrongFalsely : Prop := circuitJoinsRow.holds Try.pinned (OpenSpec.ofChange circuitJoinsWrong)

/-- 'cellularlaw17.CircuitComposes': WHATEVER THE INPUT: true; the input reads as it did. -/
def circuitComposesSpec : ChangeSpec := { name := "circuitComposes", fn := fun _ => fun
  | [d1, d2, d3] => { results := [.lit (.bool true)], args := [d1, d2, d3] }
  | _ => none }
def circuitComposesRow : OpenClaim := { program := "ythmkcckoeodhnaa", sum := "a132f7b936ac7a69271d8634f8985ff68cb461a0209a682858e7d69d99789dcb", func := "cellular/cellularlaw17.CircuitComposes", spec := "circuitComposes", unfollowed := true, recurses := true, apart := false }
def CircuitComposesSaid : Prop := circuitComposesRow.holds Try.pinned (OpenSpec.ofChange circuitComposesSpec)

/-- ITS FALSE NEIGHBOUR: 'it returns false'. Refute it at one input. -/
def circuitComposesWrong : ChangeSpec := { name := "circuitComposes", fn := fun _ => fun
  | [d1, d2, d3] => { results := [.lit (.bool false)], args := [d1, d2, d3] }
  | _ => none }
def CircuitComposesWrongFalsely : Prop := circuitComposesRow.holds Try.pinned (OpenSpec.ofChange circuitComposesWrong)

/-- 'cellularlaw17.CircuitSame': WHATEVER THE INPUT: true; the input reads as it did. -/
def circuitSameSpec : ChangeSpec := { name := "circuitSame", fn := fun _ => fun
  | [d1, d2] => { results := [.lit (.bool true)], args := [d1, d2] }
  | _ => none }
def circuitSameRow : OpenClaim := { program := "ythmkcckoeodhnaa", sum := "a132f7b936ac7a69271d8634f8985ff68cb461a0209a682858e7d69d99789dcb", func := "cellular/cellularlaw17.CircuitSame", spec := "circuitSame", unfollowed := true, recurses := true, apart := false }
def CircuitSameSaid : Prop := circuitSameRow.holds Try.pinned (OpenSpec.ofChange circuitSameSpec)

/-- ITS FALSE NEIGHBOUR: 'it returns false'. Refute it at one input. -/
def circuitSameWrong : ChangeSpec := { name := "circuitSame", fn := fun _ => fun
  | [d1, d2] => { results := [.lit (.bool false)], args := [d1, d2] }
  | _ => none }
def CircuitSameWrongFalsely : Prop := circuitSameRow.holds Try.pinned (OpenSpec.ofChange circuitSameWrong)

/- THE SECOND FORM. 'bulk': how many values and letters a reading holds, each counted each time it is reached (what is shared counts as often as it is met; a slice's spare places count too). A statement '..UptoSaid' is the law's where the arguments, and the package variables that the reading takes, are together of bulk at most 1048576: NARROWER than '..Said'. Prove '..Said' where nothing that the law and all that it calls make is longer than what came in: it says more and counts as full. Else prove '..UptoSaid'. A law counts once. -/
mutual
def uptoBulk {H : Type} : DataW H → Nat
  | .lit (.string bytes) => bytes.length + 1
  | .lit _ => 1
  | .nil => 1
  | .ptr d => uptoBulk d + 1
  | .slice elems spare => uptoBulkAll elems + uptoBulkAll spare + 1
  | .agg parts => uptoBulkAll parts + 1
  | .iface _ d => uptoBulk d + 1
  | .map entries => uptoBulkEntries entries + 1
  | .held _ => 1
def uptoBulkAll {H : Type} : List (DataW H) → Nat
  | [] => 0
  | d :: r => uptoBulk d + uptoBulkAll r
def uptoBulkEntries {H : Type} : List (Lit × DataW H) → Nat
  | [] => 0
  | x :: r => uptoBulkEntry x + uptoBulkEntries r
def uptoBulkEntry {H : Type} : Lit × DataW H → Nat
  | (.string bytes, d) => bytes.length + uptoBulk d + 1
  | (_, d) => uptoBulk d + 1
 end
def uptoSmall : (H : Type) → List (DataW H) → Bool := fun _ ds => decide (uptoBulkAll ds ≤ 1048576)
def OpenSpec.upto (s : _root_.Go.ChangeSpec) : _root_.Go.OpenSpec := { _root_.Go.OpenSpec.ofChange s with cond := some uptoSmall }

/-- 'cellularlaw17.CircuitRight', WHERE WHAT IT READS IS OF BULK AT MOST 1048576: true; the input reads as it did. -/
def circuitRightUptoRow : OpenClaim := { program := "ythmkcckoeodhnaa", sum := "a132f7b936ac7a69271d8634f8985ff68cb461a0209a682858e7d69d99789dcb", func := "cellular/cellularlaw17.CircuitRight", spec := "circuitRight", unfollowed := true, recurses := true, apart := false, narrowed := true }
def CircuitRightUptoSaid : Prop := circuitRightUptoRow.holds Try.pinned (OpenSpec.upto circuitRightSpec)

/-- 'cellularlaw17.CircuitEvals', WHERE WHAT IT READS IS OF BULK AT MOST 1048576: true; the input reads as it did. -/
def circuitEvalsUptoRow : OpenClaim := { program := "ythmkcckoeodhnaa", sum := "a132f7b936ac7a69271d8634f8985ff68cb461a0209a682858e7d69d99789dcb", func := "cellular/cellularlaw17.CircuitEvals", spec := "circuitEvals", unfollowed := true, recurses := true, apart := false, narrowed := true }
def CircuitEvalsUptoSaid : Prop := circuitEvalsUptoRow.holds Try.pinned (OpenSpec.upto circuitEvalsSpec)

/-- 'cellularlaw17.CircuitWords', WHERE WHAT IT READS IS OF BULK AT MOST 1048576: true; the input reads as it did. -/
def circuitWordsUptoRow : OpenClaim := { program := "ythmkcckoeodhnaa", sum := "a132f7b936ac7a69271d8634f8985ff68cb461a0209a682858e7d69d99789dcb", func := "cellular/cellularlaw17.CircuitWords", spec := "circuitWords", unfollowed := true, recurses := true, apart := false, narrowed := true }
def CircuitWordsUptoSaid : Prop := circuitWordsUptoRow.holds Try.pinned (OpenSpec.upto circuitWordsSpec)

/-- 'cellularlaw17.CircuitJoins', WHERE WHAT IT READS IS OF BULK AT MOST 1048576: true; the input reads as it did. -/
def circuitJoinsUptoRow : OpenClaim := { program := "ythmkcckoeodhnaa", sum := "a132f7b936ac7a69271d8634f8985ff68cb461a0209a682858e7d69d99789dcb", func := "cellular/cellularlaw17.CircuitJoins", spec := "circuitJoins", unfollowed := true, recurses := true, apart := false, narrowed := true }
def CircuitJoinsUptoSaid : Prop := circuitJoinsUptoRow.holds Try.pinned (OpenSpec.upto circuitJoinsSpec)

/-- 'cellularlaw17.CircuitComposes', WHERE WHAT IT READS IS OF BULK AT MOST 1048576: true; the input reads as it did. -/
def circuitComposesUptoRow : OpenClaim := { program := "ythmkcckoeodhnaa", sum := "a132f7b936ac7a69271d8634f8985ff68cb461a0209a682858e7d69d99789dcb", func := "cellular/cellularlaw17.CircuitComposes", spec := "circuitComposes", unfollowed := true, recurses := true, apart := false, narrowed := true }
def CircuitComposesUptoSaid : Prop := circuitComposesUptoRow.holds Try.pinned (OpenSpec.upto circuitComposesSpec)

/-- 'cellularlaw17.CircuitSame', WHERE WHAT IT READS IS OF BULK AT MOST 1048576: true; the input reads as it did. -/
def circuitSameUptoRow : OpenClaim := { program := "ythmkcckoeodhnaa", sum := "a132f7b936ac7a69271d8634f8985ff68cb461a0209a682858e7d69d99789dcb", func := "cellular/cellularlaw17.CircuitSame", spec := "circuitSame", unfollowed := true, recurses := true, apart := false, narrowed := true }
def CircuitSameUptoSaid : Prop := circuitSameUptoRow.holds Try.pinned (OpenSpec.upto circuitSameSpec)

end Rows
end Go.Proofs.Ythmkcckoeodhnaa
