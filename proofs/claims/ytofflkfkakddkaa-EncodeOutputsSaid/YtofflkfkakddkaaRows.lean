/-
  No cell of these rows narrows 'for every input' (looked for: loops, veiled, ifaces, maps, wideKeys, modest, calm, conditions, laid).
  DERIVED. THE GIVEN ROWS OF THIS SEAT. 6 by the template 'for every input the law returns true; each argument reads behind the call as it read before'; 0 by the template 'total and deterministic' (their statements: YtofflkfkakddkaaTotals.lean).
  GIVEN WITH THE SEED: the statements are not yours to turn. If you find one false, say at which input.
  Laid BY PROGRAM, IN A SANDBOX (cutbox-rows.mjs): the forced cells as the released guide's own fill.sh prints them over the translation 535f5f47a58bf387… (all of the seat's roots in one cut). By AI agents, Wed Nov 11 2026. No macro, syntax, notation, axiom, sorry.
-/
import Derived.Test.YtofflkfkakddkaaChecked
import GoSem.Claim
import GoSem.ClaimJoined
import GoSem.ClaimMapViews
import Derived.JoinedTies
import Derived.KernelRfl
namespace Go.Proofs.Ytofflkfkakddkaa
/- THE CELL 'sum', in the pinned program and in every row, IS THE sha256 OF THE DUMP (.gsa) THAT YtofflkfkakddkaaProg.lean LOADS. Nothing in Lean hashes anything: it is a label: what it is worth is what the hold of that sum in a sandbox is worth. -/
noncomputable def Try.pinned : Pinned := { name := "ytofflkfkakddkaa", sum := "535f5f47a58bf38741e92d8a6c4b03ccdc2f2fc3153e56427ce435481e8b2c83", checked := Try.checked }
namespace Rows
def none {H : Type} : Left H := { results := [], args := [] }

/-- 'cellularlaw41.EncodeCircuits': WHATEVER THE INPUT: true; the input reads as it did. -/
def encodeCircuitsSpec : ChangeSpec := { name := "encodeCircuits", fn := fun _ => fun
  | [d] => { results := [.lit (.bool true)], args := [d] }
  | _ => none }
def encodeCircuitsRow : OpenClaim := { program := "ytofflkfkakddkaa", sum := "535f5f47a58bf38741e92d8a6c4b03ccdc2f2fc3153e56427ce435481e8b2c83", func := "cellular/cellularlaw41.EncodeCircuits", spec := "encodeCircuits", unfollowed := true, recurses := true, apart := false }
def EncodeCircuitsSaid : Prop := encodeCircuitsRow.holds Try.pinned (OpenSpec.ofChange encodeCircuitsSpec)

/-- ITS FALSE NEIGHBOUR: 'it returns false'. Refute it at one input. -/
def encodeCircuitsWrong : ChangeSpec := { name := "encodeCircuits", fn := fun _ => fun
  | [d] => { results := [.lit (.bool false)], args := [d] }
  | _ => none }
def EncodeCircuitsWrongFalsely : Prop := encodeCircuitsRow.holds Try.pinned (OpenSpec.ofChange encodeCircuitsWrong)

/-- 'cellularlaw41.EncodePlaces': WHATEVER THE INPUT: true; the input reads as it did. -/
def encodePlacesSpec : ChangeSpec := { name := "encodePlaces", fn := fun _ => fun
  | [d1, d2, d3] => { results := [.lit (.bool true)], args := [d1, d2, d3] }
  | _ => none }
def encodePlacesRow : OpenClaim := { program := "ytofflkfkakddkaa", sum := "535f5f47a58bf38741e92d8a6c4b03ccdc2f2fc3153e56427ce435481e8b2c83", func := "cellular/cellularlaw41.EncodePlaces", spec := "encodePlaces", unfollowed := true, recurses := true, apart := false }
def EncodePlacesSaid : Prop := encodePlacesRow.holds Try.pinned (OpenSpec.ofChange encodePlacesSpec)

/-- ITS FALSE NEIGHBOUR: 'it returns false'. Refute it at one input. -/
def encodePlacesWrong : ChangeSpec := { name := "encodePlaces", fn := fun _ => fun
  | [d1, d2, d3] => { results := [.lit (.bool false)], args := [d1, d2, d3] }
  | _ => none }
def EncodePlacesWrongFalsely : Prop := encodePlacesRow.holds Try.pinned (OpenSpec.ofChange encodePlacesWrong)

/-- 'cellularlaw41.EncodeFixes': WHATEVER THE INPUT: true; the input reads as it did. -/
def encodeFixesSpec : ChangeSpec := { name := "encodeFixes", fn := fun _ => fun
  | [d1, d2, d3] => { results := [.lit (.bool true)], args := [d1, d2, d3] }
  | _ => none }
def encodeFixesRow : OpenClaim := { program := "ytofflkfkakddkaa", sum := "535f5f47a58bf38741e92d8a6c4b03ccdc2f2fc3153e56427ce435481e8b2c83", func := "cellular/cellularlaw41.EncodeFixes", spec := "encodeFixes", unfollowed := true, recurses := true, apart := false }
def EncodeFixesSaid : Prop := encodeFixesRow.holds Try.pinned (OpenSpec.ofChange encodeFixesSpec)

/-- ITS FALSE NEIGHBOUR: 'it returns false'. Refute it at one input. -/
def encodeFixesWrong : ChangeSpec := { name := "encodeFixes", fn := fun _ => fun
  | [d1, d2, d3] => { results := [.lit (.bool false)], args := [d1, d2, d3] }
  | _ => none }
def EncodeFixesWrongFalsely : Prop := encodeFixesRow.holds Try.pinned (OpenSpec.ofChange encodeFixesWrong)

/-- 'cellularlaw41.EncodeSames': WHATEVER THE INPUT: true; the input reads as it did. -/
def encodeSamesSpec : ChangeSpec := { name := "encodeSames", fn := fun _ => fun
  | [d1, d2, d3] => { results := [.lit (.bool true)], args := [d1, d2, d3] }
  | _ => none }
def encodeSamesRow : OpenClaim := { program := "ytofflkfkakddkaa", sum := "535f5f47a58bf38741e92d8a6c4b03ccdc2f2fc3153e56427ce435481e8b2c83", func := "cellular/cellularlaw41.EncodeSames", spec := "encodeSames", unfollowed := true, recurses := true, apart := false }
def EncodeSamesSaid : Prop := encodeSamesRow.holds Try.pinned (OpenSpec.ofChange encodeSamesSpec)

/-- ITS FALSE NEIGHBOUR: 'it returns false'. Refute it at one input. -/
def encodeSamesWrong : ChangeSpec := { name := "encodeSames", fn := fun _ => fun
  | [d1, d2, d3] => { results := [.lit (.bool false)], args := [d1, d2, d3] }
  | _ => none }
def EncodeSamesWrongFalsely : Prop := encodeSamesRow.holds Try.pinned (OpenSpec.ofChange encodeSamesWrong)

/-- 'cellularlaw41.EncodeValues': WHATEVER THE INPUT: true; the input reads as it did. -/
def encodeValuesSpec : ChangeSpec := { name := "encodeValues", fn := fun _ => fun
  | [d1, d2] => { results := [.lit (.bool true)], args := [d1, d2] }
  | _ => none }
def encodeValuesRow : OpenClaim := { program := "ytofflkfkakddkaa", sum := "535f5f47a58bf38741e92d8a6c4b03ccdc2f2fc3153e56427ce435481e8b2c83", func := "cellular/cellularlaw41.EncodeValues", spec := "encodeValues", unfollowed := true, recurses := true, apart := false }
def EncodeValuesSaid : Prop := encodeValuesRow.holds Try.pinned (OpenSpec.ofChange encodeValuesSpec)

/-- ITS FALSE NEIGHBOUR: 'it returns false'. Refute it at one input. -/
def encodeValuesWrong : ChangeSpec := { name := "encodeValues", fn := fun _ => fun
  | [d1, d2] => { results := [.lit (.bool false)], args := [d1, d2] }
  | _ => none }
def EncodeValuesWrongFalsely : Prop := encodeValuesRow.holds Try.pinned (OpenSpec.ofChange encodeValuesWrong)

/-- 'cellularlaw41.EncodeOutputs': WHATEVER THE INPUT: true; the input reads as it did. -/
def encodeOutputsSpec : ChangeSpec := { name := "encodeOutputs", fn := fun _ => fun
  | [d1, d2] => { results := [.lit (.bool true)], args := [d1, d2] }
  | _ => none }
def encodeOutputsRow : OpenClaim := { program := "ytofflkfkakddkaa", sum := "535f5f47a58bf38741e92d8a6c4b03ccdc2f2fc3153e56427ce435481e8b2c83", func := "cellular/cellularlaw41.EncodeOutputs", spec := "encodeOutputs", unfollowed := true, recurses := true, apart := false }
def EncodeOutputsSaid : Prop := encodeOutputsRow.holds Try.pinned (OpenSpec.ofChange encodeOutputsSpec)

/-- ITS FALSE NEIGHBOUR: 'it returns false'. Refute it at one input. -/
def encodeOutputsWrong : ChangeSpec := { name := "encodeOutputs", fn := fun _ => fun
  | [d1, d2] => { results := [.lit (.bool false)], args := [d1, d2] }
  | _ => none }
def EncodeOutputsWrongFalsely : Prop := encodeOutputsRow.holds Try.pinned (OpenSpec.ofChange encodeOutputsWrong)

/- THE SECOND FORM. 'bulk': how many values and letters a reading holds, each counted each time it is reached (what is shared counts as often as it is met; a slice's spare places count too). A statement '..UptoSaid' is the law's where the arguments, and the package variables that the reading takes, are together of bulk at most 1048576: NARROWER than '..Said'. Prove '..Said' where nothing that the law and all that it calls make is longer than what came in: it says more and counts as full. Else prove '..UptoSaid'. A law counts once. -/
mutual
def uptoBulk {H : Type} : DataW H → Nat
  | .lit (.string bytes) => bytes.length + 1
  | .lit _ => 1
  | .nil => 1
  | .ptr d => uptoBulk d + 1
  | .slice elems spare => uptoBulkAll elems + uptoBulkAll spare + 1
  | .agg parts => uptoBulkAll parts + 1
  | .iface _ d => uptoBulk d + 1
  | .map entries => uptoBulkEntries entries + 1
  | .held _ => 1
def uptoBulkAll {H : Type} : List (DataW H) → Nat
  | [] => 0
  | d :: r => uptoBulk d + uptoBulkAll r
def uptoBulkEntries {H : Type} : List (Lit × DataW H) → Nat
  | [] => 0
  | x :: r => uptoBulkEntry x + uptoBulkEntries r
def uptoBulkEntry {H : Type} : Lit × DataW H → Nat
  | (.string bytes, d) => bytes.length + uptoBulk d + 1
  | (_, d) => uptoBulk d + 1
 end
def uptoSmall : (H : Type) → List (DataW H) → Bool := fun _ ds => decide (uptoBulkAll ds ≤ 1048576)
def OpenSpec.upto (s : _root_.Go.ChangeSpec) : _root_.Go.OpenSpec := { _root_.Go.OpenSpec.ofChange s with cond := some uptoSmall }

/-- 'cellularlaw41.EncodeCircuits', WHERE WHAT IT READS IS OF BULK AT MOST 1048576: true; the input reads as it did. -/
def encodeCircuitsUptoRow : OpenClaim := { program := "ytofflkfkakddkaa", sum := "535f5f47a58bf38741e92d8a6c4b03ccdc2f2fc3153e56427ce435481e8b2c83", func := "cellular/cellularlaw41.EncodeCircuits", spec := "encodeCircuits", unfollowed := true, recurses := true, apart := false, narrowed := true }
def EncodeCircuitsUptoSaid : Prop := encodeCircuitsUptoRow.holds Try.pinned (OpenSpec.upto encodeCircuitsSpec)

/-- 'cellularlaw41.EncodePlaces', WHERE WHAT IT READS IS OF BULK AT MOST 1048576: true; the input reads as it did. -/
def encodePlacesUptoRow : OpenClaim := { program := "ytofflkfkakddkaa", sum := "535f5f47a58bf38741e92d8a6c4b03ccdc2f2fc3153e56427ce435481e8b2c83", func := "cellular/cellularlaw41.EncodePlaces", spec := "encodePlaces", unfollowed := true, recurses := true, apart := false, narrowed := true }
def EncodePlacesUptoSaid : Prop := encodePlacesUptoRow.holds Try.pinned (OpenSpec.upto encodePlacesSpec)

/-- 'cellularlaw41.EncodeFixes', WHERE WHAT IT READS IS OF BULK AT MOST 1048576: true; the input reads as it did. -/
def encodeFixesUptoRow : OpenClaim := { program := "ytofflkfkakddkaa", sum := "535f5f47a58bf38741e92d8a6c4b03ccdc2f2fc3153e56427ce435481e8b2c83", func := "cellular/cellularlaw41.EncodeFixes", spec := "encodeFixes", unfollowed := true, recurses := true, apart := false, narrowed := true }
def EncodeFixesUptoSaid : Prop := encodeFixesUptoRow.holds Try.pinned (OpenSpec.upto encodeFixesSpec)

/-- 'cellularlaw41.EncodeSames', WHERE WHAT IT READS IS OF BULK AT MOST 1048576: true; the input reads as it did. -/
def encodeSamesUptoRow : OpenClaim := { program := "ytofflkfkakddkaa", sum := "535f5f47a58bf38741e92d8a6c4b03ccdc2f2fc3153e56427ce435481e8b2c83", func := "cellular/cellularlaw41.EncodeSames", spec := "encodeSames", unfollowed := true, recurses := true, apart := false, narrowed := true }
def EncodeSamesUptoSaid : Prop := encodeSamesUptoRow.holds Try.pinned (OpenSpec.upto encodeSamesSpec)

/-- 'cellularlaw41.EncodeValues', WHERE WHAT IT READS IS OF BULK AT MOST 1048576: true; the input reads as it did. -/
def encodeValuesUptoRow : OpenClaim := { program := "ytofflkfkakddkaa", sum := "535f5f47a58bf38741e92d8a6c4b03ccdc2f2fc3153e56427ce435481e8b2c83", func := "cellular/cellularlaw41.EncodeValues", spec := "encodeValues", unfollowed := true, recurses := true, apart := false, narrowed := true }
def EncodeValuesUptoSaid : Prop := encodeValuesUptoRow.holds Try.pinned (OpenSpec.upto encodeValuesSpec)

/-- 'cellularlaw41.EncodeOutputs', WHERE WHAT IT READS IS OF BULK AT MOST 1048576: true; the input reads as it did. -/
def encodeOutputsUptoRow : OpenClaim := { program := "ytofflkfkakddkaa", sum := "535f5f47a58bf38741e92d8a6c4b03ccdc2f2fc3153e56427ce435481e8b2c83", func := "cellular/cellularlaw41.EncodeOutputs", spec := "encodeOutputs", unfollowed := true, recurses := true, apart := false, narrowed := true }
def EncodeOutputsUptoSaid : Prop := encodeOutputsUptoRow.holds Try.pinned (OpenSpec.upto encodeOutputsSpec)

end Rows
end Go.Proofs.Ytofflkfkakddkaa
