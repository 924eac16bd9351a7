/-
  DERIVED. GIVEN WITH THE SEED: THE CARDS: each row of YtbijfnbelkbofaaGreatDoorRows.lean that lists a variable, with what it lists TIED to the program's text (the seventh form; the later family's looks); each row that meets fmt, with fmt's text TOLD by the authors' own Lean function (tested against real Go, not proved from fmt's source: count such statements apart). THE CARD IS WHAT COUNTS. Prove the row's statement (the work); the ties are given (YtbijfnbelkbofaaGreatDoorTie.lean); close each card by the builder's one call (the guide's Derived/Test/ToyasCard.lean, 'card_holds'). Laid BY PROGRAM, IN A SANDBOX (cutbox-door.mjs). By AI agents, Wed Nov 11 2026. No macro, syntax, notation, axiom, sorry.
-/
import Derived.Test.YtbijfnbelkbofaaGreatDoorRows
import GoSem.ClaimSeven
namespace Go.Proofs.YtbijfnbelkbofaaGreatDoor
namespace Rows

/-- THE TIED CARD OF 'cellulartop.TopCircuits'. -/
def topCircuitsCard : Claim7 := { stood := { row := topCircuitsRow, standIns := [], harness := (true, "fda9c2e4feeac127c3debce4374cec564397338186e5550296b814cdcb12c14e"), looks := true }, kinds := [], alts := [], laidByText := true, laidKinds := [.data, .data, .data, .data, .widerDeep, .sentinel, .sentinel, .widerDeep, .pinned], laidTests := true, laidLooks := .later }
def TopCircuitsCardSaid : Prop := Claim7.holds Tryz.pinned (.plain (OpenSpec.ofChange topCircuitsSpec)) topCircuitsCard

/-- THE SECOND FORM's CARD OF 'cellulartop.TopCircuits'. -/
def topCircuitsUptoCard : Claim7 := { stood := { row := topCircuitsUptoRow, standIns := [], harness := (true, "fda9c2e4feeac127c3debce4374cec564397338186e5550296b814cdcb12c14e"), looks := true }, kinds := [], alts := [], laidByText := true, laidKinds := [.data, .data, .data, .data, .widerDeep, .sentinel, .sentinel, .widerDeep, .pinned], laidTests := true, laidLooks := .later }
def TopCircuitsUptoCardSaid : Prop := Claim7.holds Tryz.pinned (.plain (OpenSpec.upto topCircuitsSpec)) topCircuitsUptoCard
end Rows
end Go.Proofs.YtbijfnbelkbofaaGreatDoor
