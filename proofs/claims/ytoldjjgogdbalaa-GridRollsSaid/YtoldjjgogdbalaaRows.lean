/-
  No cell of these rows narrows 'for every input' (looked for: loops, veiled, ifaces, maps, wideKeys, modest, calm, conditions, laid).
  DERIVED. THE GIVEN ROWS OF THIS SEAT. 7 by the template 'for every input the law returns true; each argument reads behind the call as it read before'; 0 by the template 'total and deterministic' (their statements: YtoldjjgogdbalaaTotals.lean).
  GIVEN WITH THE SEED: the statements are not yours to turn. If you find one false, say at which input.
  Laid BY PROGRAM, IN A SANDBOX (cutbox-rows.mjs): the forced cells as the released guide's own fill.sh prints them over the translation 412b2090781ee308… (all of the seat's roots in one cut). By AI agents, Wed Nov 11 2026. No macro, syntax, notation, axiom, sorry.
-/
import Derived.Test.YtoldjjgogdbalaaChecked
import GoSem.Claim
import GoSem.ClaimJoined
import GoSem.ClaimMapViews
import Derived.JoinedTies
import Derived.KernelRfl
namespace Go.Proofs.Ytoldjjgogdbalaa
/- THE CELL 'sum', in the pinned program and in every row, IS THE sha256 OF THE DUMP (.gsa) THAT YtoldjjgogdbalaaProg.lean LOADS. Nothing in Lean hashes anything: it is a label: what it is worth is what the hold of that sum in a sandbox is worth. -/
noncomputable def Try.pinned : Pinned := { name := "ytoldjjgogdbalaa", sum := "412b2090781ee30805ac42bdc596c4110f376999f482ea05bdc55f92738cb614", checked := Try.checked }
namespace Rows
def none {H : Type} : Left H := { results := [], args := [] }

/-- 'cellularlaw21.GridNews': WHATEVER THE INPUT: true; the input reads as it did. -/
def gridNewsSpec : ChangeSpec := { name := "gridNews", fn := fun _ => fun
  | [d1, d2, d3] => { results := [.lit (.bool true)], args := [d1, d2, d3] }
  | _ => none }
def gridNewsRow : OpenClaim := { program := "ytoldjjgogdbalaa", sum := "412b2090781ee30805ac42bdc596c4110f376999f482ea05bdc55f92738cb614", func := "cellular/cellularlaw21.GridNews", spec := "gridNews", unfollowed := true, recurses := true, apart := false }
def GridNewsSaid : Prop := gridNewsRow.holds Try.pinned (OpenSpec.ofChange gridNewsSpec)

/-- ITS FALSE NEIGHBOUR: 'it returns false'. Refute it at one input. -/
def gridNewsWrong : ChangeSpec := { name := "gridNews", fn := fun _ => fun
  | [d1, d2, d3] => { results := [.lit (.bool false)], args := [d1, d2, d3] }
  | _ => none }
def GridNewsWrongFalsely : Prop := gridNewsRow.holds Try.pinned (OpenSpec.ofChange gridNewsWrong)

/-- 'cellularlaw21.GridGets': WHATEVER THE INPUT: true; the input reads as it did. -/
def gridGetsSpec : ChangeSpec := { name := "gridGets", fn := fun _ => fun
  | [d1, d2, d3] => { results := [.lit (.bool true)], args := [d1, d2, d3] }
  | _ => none }
def gridGetsRow : OpenClaim := { program := "ytoldjjgogdbalaa", sum := "412b2090781ee30805ac42bdc596c4110f376999f482ea05bdc55f92738cb614", func := "cellular/cellularlaw21.GridGets", spec := "gridGets", unfollowed := true, recurses := true, apart := false }
def GridGetsSaid : Prop := gridGetsRow.holds Try.pinned (OpenSpec.ofChange gridGetsSpec)

/-- ITS FALSE NEIGHBOUR: 'it returns false'. Refute it at one input. -/
def gridGetsWrong : ChangeSpec := { name := "gridGets", fn := fun _ => fun
  | [d1, d2, d3] => { results := [.lit (.bool false)], args := [d1, d2, d3] }
  | _ => none }
def GridGetsWrongFalsely : Prop := gridGetsRow.holds Try.pinned (OpenSpec.ofChange gridGetsWrong)

/-- 'cellularlaw21.GridSets': WHATEVER THE INPUT: true; the input reads as it did. -/
def gridSetsSpec : ChangeSpec := { name := "gridSets", fn := fun _ => fun
  | [d1, d2] => { results := [.lit (.bool true)], args := [d1, d2] }
  | _ => none }
def gridSetsRow : OpenClaim := { program := "ytoldjjgogdbalaa", sum := "412b2090781ee30805ac42bdc596c4110f376999f482ea05bdc55f92738cb614", func := "cellular/cellularlaw21.GridSets", spec := "gridSets", unfollowed := true, recurses := true, apart := false }
def GridSetsSaid : Prop := gridSetsRow.holds Try.pinned (OpenSpec.ofChange gridSetsSpec)

/-- ITS FALSE NEIGHBOUR: 'it returns false'. Refute it at one input. -/
def gridSetsWrong : ChangeSpec := { name := "gridSets", fn := fun _ => fun
  | [d1, d2] => { results := [.lit (.bool false)], args := [d1, d2] }
  | _ => none }
def GridSetsWrongFalsely : Prop := gridSetsRow.holds Try.pinned (OpenSpec.ofChange gridSetsWrong)

/-- 'cellularlaw21.GridFrom': WHATEVER THE INPUT: true; the input reads as it did. -/
def gridFromSpec : ChangeSpec := { name := "gridFrom", fn := fun _ => fun
  | [d1, d2] => { results := [.lit (.bool true)], args := [d1, d2] }
  | _ => none }
def gridFromRow : OpenClaim := { program := "ytoldjjgogdbalaa", sum := "412b2090781ee30805ac42bdc596c4110f376999f482ea05bdc55f92738cb614", func := "cellular/cellularlaw21.GridFrom", spec := "gridFrom", unfollowed := true, recurses := true, apart := false }
def GridFromSaid : Prop := gridFromRow.holds Try.pinned (OpenSpec.ofChange gridFromSpec)

/-- ITS FALSE NEIGHBOUR: 'it returns false'. Refute it at one input. -/
def gridFromWrong : ChangeSpec := { name := "gridFrom", fn := fun _ => fun
  | [d1, d2] => { results := [.lit (.bool false)], args := [d1, d2] }
  | _ => none }
def GridFromWrongFalsely : Prop := gridFromRow.holds Try.pinned (OpenSpec.ofChange gridFromWrong)

/-- 'cellularlaw21.GridPatterns': WHATEVER THE INPUT: true; the input reads as it did. -/
def gridPatternsSpec : ChangeSpec := { name := "gridPatterns", fn := fun _ => fun
  | [d] => { results := [.lit (.bool true)], args := [d] }
  | _ => none }
def gridPatternsRow : OpenClaim := { program := "ytoldjjgogdbalaa", sum := "412b2090781ee30805ac42bdc596c4110f376999f482ea05bdc55f92738cb614", func := "cellular/cellularlaw21.GridPatterns", spec := "gridPatterns", unfollowed := true, recurses := true, apart := false }
def GridPatternsSaid : Prop := gridPatternsRow.holds Try.pinned (OpenSpec.ofChange gridPatternsSpec)

/-- ITS FALSE NEIGHBOUR: 'it returns false'. Refute it at one input. -/
def gridPatternsWrong : ChangeSpec := { name := "gridPatterns", fn := fun _ => fun
  | [d] => { results := [.lit (.bool false)], args := [d] }
  | _ => none }
def GridPatternsWrongFalsely : Prop := gridPatternsRow.holds Try.pinned (OpenSpec.ofChange gridPatternsWrong)

/-- 'cellularlaw21.GridRolls': WHATEVER THE INPUT: true; the input reads as it did. -/
def gridRollsSpec : ChangeSpec := { name := "gridRolls", fn := fun _ => fun
  | [d1, d2, d3] => { results := [.lit (.bool true)], args := [d1, d2, d3] }
  | _ => none }
def gridRollsRow : OpenClaim := { program := "ytoldjjgogdbalaa", sum := "412b2090781ee30805ac42bdc596c4110f376999f482ea05bdc55f92738cb614", func := "cellular/cellularlaw21.GridRolls", spec := "gridRolls", unfollowed := true, recurses := true, apart := false }
def GridRollsSaid : Prop := gridRollsRow.holds Try.pinned (OpenSpec.ofChange gridRollsSpec)

/-- ITS FALSE NEIGHBOUR: 'it returns false'. Refute it at one input. -/
def gridRollsWrong : ChangeSpec := { name := "gridRolls", fn := fun _ => fun
  | [d1, d2, d3] => { results := [.lit (.bool false)], args := [d1, d2, d3] }
  | _ => none }
def GridRollsWrongFalsely : Prop := gridRollsRow.holds Try.pinned (OpenSpec.ofChange gridRollsWrong)

/-- 'cellularlaw21.GridSame': WHATEVER THE INPUT: true; the input reads as it did. -/
def gridSameSpec : ChangeSpec := { name := "gridSame", fn := fun _ => fun
  | [d1, d2] => { results := [.lit (.bool true)], args := [d1, d2] }
  | _ => none }
def gridSameRow : OpenClaim := { program := "ytoldjjgogdbalaa", sum := "412b2090781ee30805ac42bdc596c4110f376999f482ea05bdc55f92738cb614", func := "cellular/cellularlaw21.GridSame", spec := "gridSame", unfollowed := true, recurses := true, apart := false }
def GridSameSaid : Prop := gridSameRow.holds Try.pinned (OpenSpec.ofChange gridSameSpec)

/-- ITS FALSE NEIGHBOUR: 'it returns false'. Refute it at one input. -/
def gridSameWrong : ChangeSpec := { name := "gridSame", fn := fun _ => fun
  | [d1, d2] => { results := [.lit (.bool false)], args := [d1, d2] }
  | _ => none }
def GridSameWrongFalsely : Prop := gridSameRow.holds Try.pinned (OpenSpec.ofChange gridSameWrong)

/- THE SECOND FORM. 'bulk': how many values and letters a reading holds, each counted each time it is reached (what is shared counts as often as it is met; a slice's spare places count too). A statement '..UptoSaid' is the law's where the arguments, and the package variables that the reading takes, are together of bulk at most 1048576: NARROWER than '..Said'. Prove '..Said' where nothing that the law and all that it calls make is longer than what came in: it says more and counts as full. Else prove '..UptoSaid'. A law counts once. -/
mutual
def uptoBulk {H : Type} : DataW H → Nat
  | .lit (.string bytes) => bytes.length + 1
  | .lit _ => 1
  | .nil => 1
  | .ptr d => uptoBulk d + 1
  | .slice elems spare => uptoBulkAll elems + uptoBulkAll spare + 1
  | .agg parts => uptoBulkAll parts + 1
  | .iface _ d => uptoBulk d + 1
  | .map entries => uptoBulkEntries entries + 1
  | .held _ => 1
def uptoBulkAll {H : Type} : List (DataW H) → Nat
  | [] => 0
  | d :: r => uptoBulk d + uptoBulkAll r
def uptoBulkEntries {H : Type} : List (Lit × DataW H) → Nat
  | [] => 0
  | x :: r => uptoBulkEntry x + uptoBulkEntries r
def uptoBulkEntry {H : Type} : Lit × DataW H → Nat
  | (.string bytes, d) => bytes.length + uptoBulk d + 1
  | (_, d) => uptoBulk d + 1
 end
def uptoSmall : (H : Type) → List (DataW H) → Bool := fun _ ds => decide (uptoBulkAll ds ≤ 1048576)
def OpenSpec.upto (s : _root_.Go.ChangeSpec) : _root_.Go.OpenSpec := { _root_.Go.OpenSpec.ofChange s with cond := some uptoSmall }

/-- 'cellularlaw21.GridNews', WHERE WHAT IT READS IS OF BULK AT MOST 1048576: true; the input reads as it did. -/
def gridNewsUptoRow : OpenClaim := { program := "ytoldjjgogdbalaa", sum := "412b2090781ee30805ac42bdc596c4110f376999f482ea05bdc55f92738cb614", func := "cellular/cellularlaw21.GridNews", spec := "gridNews", unfollowed := true, recurses := true, apart := false, narrowed := true }
def GridNewsUptoSaid : Prop := gridNewsUptoRow.holds Try.pinned (OpenSpec.upto gridNewsSpec)

/-- 'cellularlaw21.GridGets', WHERE WHAT IT READS IS OF BULK AT MOST 1048576: true; the input reads as it did. -/
def gridGetsUptoRow : OpenClaim := { program := "ytoldjjgogdbalaa", sum := "412b2090781ee30805ac42bdc596c4110f376999f482ea05bdc55f92738cb614", func := "cellular/cellularlaw21.GridGets", spec := "gridGets", unfollowed := true, recurses := true, apart := false, narrowed := true }
def GridGetsUptoSaid : Prop := gridGetsUptoRow.holds Try.pinned (OpenSpec.upto gridGetsSpec)

/-- 'cellularlaw21.GridSets', WHERE WHAT IT READS IS OF BULK AT MOST 1048576: true; the input reads as it did. -/
def gridSetsUptoRow : OpenClaim := { program := "ytoldjjgogdbalaa", sum := "412b2090781ee30805ac42bdc596c4110f376999f482ea05bdc55f92738cb614", func := "cellular/cellularlaw21.GridSets", spec := "gridSets", unfollowed := true, recurses := true, apart := false, narrowed := true }
def GridSetsUptoSaid : Prop := gridSetsUptoRow.holds Try.pinned (OpenSpec.upto gridSetsSpec)

/-- 'cellularlaw21.GridFrom', WHERE WHAT IT READS IS OF BULK AT MOST 1048576: true; the input reads as it did. -/
def gridFromUptoRow : OpenClaim := { program := "ytoldjjgogdbalaa", sum := "412b2090781ee30805ac42bdc596c4110f376999f482ea05bdc55f92738cb614", func := "cellular/cellularlaw21.GridFrom", spec := "gridFrom", unfollowed := true, recurses := true, apart := false, narrowed := true }
def GridFromUptoSaid : Prop := gridFromUptoRow.holds Try.pinned (OpenSpec.upto gridFromSpec)

/-- 'cellularlaw21.GridPatterns', WHERE WHAT IT READS IS OF BULK AT MOST 1048576: true; the input reads as it did. -/
def gridPatternsUptoRow : OpenClaim := { program := "ytoldjjgogdbalaa", sum := "412b2090781ee30805ac42bdc596c4110f376999f482ea05bdc55f92738cb614", func := "cellular/cellularlaw21.GridPatterns", spec := "gridPatterns", unfollowed := true, recurses := true, apart := false, narrowed := true }
def GridPatternsUptoSaid : Prop := gridPatternsUptoRow.holds Try.pinned (OpenSpec.upto gridPatternsSpec)

/-- 'cellularlaw21.GridRolls', WHERE WHAT IT READS IS OF BULK AT MOST 1048576: true; the input reads as it did. -/
def gridRollsUptoRow : OpenClaim := { program := "ytoldjjgogdbalaa", sum := "412b2090781ee30805ac42bdc596c4110f376999f482ea05bdc55f92738cb614", func := "cellular/cellularlaw21.GridRolls", spec := "gridRolls", unfollowed := true, recurses := true, apart := false, narrowed := true }
def GridRollsUptoSaid : Prop := gridRollsUptoRow.holds Try.pinned (OpenSpec.upto gridRollsSpec)

/-- 'cellularlaw21.GridSame', WHERE WHAT IT READS IS OF BULK AT MOST 1048576: true; the input reads as it did. -/
def gridSameUptoRow : OpenClaim := { program := "ytoldjjgogdbalaa", sum := "412b2090781ee30805ac42bdc596c4110f376999f482ea05bdc55f92738cb614", func := "cellular/cellularlaw21.GridSame", spec := "gridSame", unfollowed := true, recurses := true, apart := false, narrowed := true }
def GridSameUptoSaid : Prop := gridSameUptoRow.holds Try.pinned (OpenSpec.upto gridSameSpec)

end Rows
end Go.Proofs.Ytoldjjgogdbalaa
