/-
  For every text and every list of numbers the law TopCircuits returns true: where the text (of at most 200 bytes) is a rule in whatever notation whose tree is small, and the list (of at most 30) is one of states, the tree's circuit, before and after it is optimized, has the outputs for the new state of the tree, and the optimized one has no more gates; else a fixed elementary rule is looked at. Conditions: the listed package-level variables start as the program's text lays them (the card ties them to it).
-/
import Derived.Test.YtbijfnbelkbofaaGreatDoorJZ48
import Derived.Test.YtbijfnbelkbofaaGreatDoorTie
import Derived.Test.YtbijfnbelkbofaaGreatDoorCards
import Derived.SevenTiedAt
set_option linter.unusedSimpArgs false
set_option linter.unusedVariables false
namespace Go.Proofs.YtbijfnbelkbofaaGreatDoor
open Go
theorem topCircuits_holds:Rows.TopCircuitsCardSaid:=
 Claim7.holds_tied_plain_at .later [] [.data, .data, .data, .data, .widerDeep, .sentinel, .sentinel, .widerDeep, .pinned] true (true, "fda9c2e4feeac127c3debce4374cec564397338186e5550296b814cdcb12c14e") true
  topCircuits_row (fun _ h=>by cases h) (by kernel_rfl) (fun _ h=>by cases h) topCircuits_row_tie rfl ⟨rfl,rfl⟩ (by kernel_rfl) rfl
  (fun f fn hf hfn=>by
   obtain rfl : f = 3 := Option.some.inj ((show Tryz.prog.funcNamed "cellular/cellulartop.TopCircuits" = some 3 by kernel_rfl).symm.trans hf) |>.symm
   obtain rfl:fn=Tryz.f3:=(Option.some.inj (Tryz.func3.symm.trans hfn)).symm
   exact ⟨by kernel_rfl,fun j t ht=>by
    rw [Tryz.params3] at ht;have hm:t ∈ [9,22]:=by simpa using Array.mem_of_getElem? ht
    have hall:([9,22].all fun u=>!Tryz.prog.wantsStandIn u)=true:=by kernel_rfl
    exact (show Tryz.prog.wantsStandIn t=false by simpa using List.all_eq_true.1 hall t hm)⟩)
  (by kernel_rfl)
end Go.Proofs.YtbijfnbelkbofaaGreatDoor
