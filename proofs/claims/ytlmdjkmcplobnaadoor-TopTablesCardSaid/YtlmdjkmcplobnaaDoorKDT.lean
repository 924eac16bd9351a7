/-
  For every rule table and every list of numbers the law TopTables returns true: where the table is valid and its tree is made and the list is one of states, the tree leads to the new state that the table's rows give; else a fixed elementary rule is looked at. Conditions: the listed package-level variables start as the program's text lays them (the card ties them to it).
-/
import Derived.Test.YtlmdjkmcplobnaaDoorKC19
import Derived.Test.YtlmdjkmcplobnaaDoorTie
import Derived.Test.YtlmdjkmcplobnaaDoorCards
import Derived.SevenTiedAt
namespace Go.Proofs.YtlmdjkmcplobnaaDoor
open Go
theorem topTables_holds : Rows.TopTablesCardSaid :=
  Claim7.holds_tied_plain_at .later [] [.data, .data, .data, .widerDeep] true (true, "88ad8da0387fbdee40a7bdde644c7f10a52b1a920a70c4d0085430aa9194c7ee") false
    topTables_row (fun _ h => by cases h) (by kernel_rfl) (fun _ h => by cases h) topTables_row_tie rfl ⟨rfl, rfl⟩ (by kernel_rfl) rfl
    (fun f fn hf hfn => by
      obtain rfl : f = 3 := Option.some.inj ((show Tryd.prog.funcNamed "cellular/cellulartop.TopTables" = some 3 by kernel_rfl).symm.trans hf) |>.symm
      obtain rfl : fn = Tryd.f3 := (Option.some.inj (Tryd.func3.symm.trans hfn)).symm
      exact ⟨by kernel_rfl, fun j t ht => by
        rw [Tryd.params3] at ht
        have hm : t ∈ [26, 27] := by simpa using Array.mem_of_getElem? ht
        have hall : ([26, 27].all fun u => !Tryd.prog.wantsStandIn u) = true := by kernel_rfl
        exact (show Tryd.prog.wantsStandIn t = false by simpa using List.all_eq_true.1 hall t hm)⟩)
    (by kernel_rfl)
end Go.Proofs.YtlmdjkmcplobnaaDoor

