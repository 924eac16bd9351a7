/-
  DERIVED. GIVEN WITH THE SEED: THE CARDS: each row of YtlmdjkmcplobnaaDoorRows.lean that lists a variable, with what it lists TIED to the program's text (the seventh form; the later family's looks); each row that meets fmt, with fmt's text TOLD by the authors' own Lean function (tested against real Go, not proved from fmt's source: count such statements apart). THE CARD IS WHAT COUNTS. Prove the row's statement (the work); the ties are given (YtlmdjkmcplobnaaDoorTie.lean); close each card by the builder's one call (the guide's Derived/Test/ToyasCard.lean, 'card_holds'). Laid BY PROGRAM, IN A SANDBOX (cutbox-door.mjs). By AI agents, Wed Nov 11 2026. No macro, syntax, notation, axiom, sorry.
-/
import Derived.Test.YtlmdjkmcplobnaaDoorRows
import GoSem.ClaimSeven
namespace Go.Proofs.YtlmdjkmcplobnaaDoor
namespace Rows

/-- THE TIED CARD OF 'cellulartop.TopTables'. -/
def topTablesCard : Claim7 := { stood := { row := topTablesRow, standIns := [], harness := (true, "88ad8da0387fbdee40a7bdde644c7f10a52b1a920a70c4d0085430aa9194c7ee"), looks := false }, kinds := [], alts := [], laidByText := true, laidKinds := [.data, .data, .data, .widerDeep], laidTests := true, laidLooks := .later }
def TopTablesCardSaid : Prop := Claim7.holds Tryd.pinned (.plain (OpenSpec.ofChange topTablesSpec)) topTablesCard

/-- THE SECOND FORM's CARD OF 'cellulartop.TopTables'. -/
def topTablesUptoCard : Claim7 := { stood := { row := topTablesUptoRow, standIns := [], harness := (true, "88ad8da0387fbdee40a7bdde644c7f10a52b1a920a70c4d0085430aa9194c7ee"), looks := false }, kinds := [], alts := [], laidByText := true, laidKinds := [.data, .data, .data, .widerDeep], laidTests := true, laidLooks := .later }
def TopTablesUptoCardSaid : Prop := Claim7.holds Tryd.pinned (.plain (OpenSpec.upto topTablesSpec)) topTablesUptoCard
end Rows
end Go.Proofs.YtlmdjkmcplobnaaDoor
