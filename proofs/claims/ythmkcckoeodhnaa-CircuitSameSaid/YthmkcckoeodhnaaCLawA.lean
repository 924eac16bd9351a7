/-
  The laws CircuitRight and CircuitSame: what they do.
-/
import Derived.Test.YthmkcckoeodhnaaCAlive
namespace Go.Proofs.Ythmkcckoeodhnaa
open Go.RowKit
set_option linter.unusedSimpArgs false
set_option linter.unusedVariables false

theorem sameC_self (c : Circ) : sameC c c = true := by simp [sameC]

abbrev circV (c : Circ) (GA OA : Option Addr) (gn gc on oc : Nat) : Value := .agg #[.int .i64 c.inputs, .slice GA gn gc, .slice OA on oc]

set_option maxRecDepth 100000 in
set_option maxHeartbeats 2000000 in
theorem lawRight_any (c : Circ) (GA OA : Option Addr) (gn gc on oc : Nat) (w : World) (h : CAt w c GA OA gn on) :
    Calls Try.prog 3 #[.agg #[.int .i64 c.inputs, .slice GA gn gc, .slice OA on oc]] w fun e w' => e = .returned (.bool true) ∧ Below w.heap.size w w' := by
  have H : Hid (CAt w c GA OA gn on) := h
  clear h
  go_enter Try.func3, Try.ntmps3
  go_wp2_with fail
  refine (few_any c GA OA gn gc on oc _ (H.out.up (by go_grown))).mono ?_
  rintro e w1 ⟨rfl, hb⟩
  have HB : Hid (Below w.heap.size w w1) := below_next hb (by go_grown)
  have HC : Hid (CAt w1 c GA OA gn on) := H.out.up HB.out
  have RC : Hid (Row w1 w.heap.size 25 [.int .i64 c.inputs, .slice GA gn gc, .slice OA on oc]) := rowCells (Row.new w 25 [.int .i64 c.inputs, .slice GA gn gc, .slice OA on oc]) hb
  clear hb
  cases hf : fewC c
  · clear RC
    go_wp2_with fail
    refine (alive_any _).mono ?_
    rintro e w2 ⟨rfl, hb⟩
    have HB2 : Hid (Below w.heap.size w w2) := below_on HB.out (by go_grown) hb
    clear hb
    go_wp2
    go_ret
    exact ⟨rfl, HB2.out⟩
  go_wp2_with fail
  have HS : ∀ w', Below w1.heap.size w1 w' → w'.cell? ⟨w.heap.size, 0, none⟩ = some (.int .i64 c.inputs) ∧ w'.cell? ⟨w.heap.size, 1, none⟩ = some (.slice GA gn gc) ∧ w'.cell? ⟨w.heap.size, 2, none⟩ = some (.slice OA on oc) := fun w' hw => ⟨(rowCells RC.out hw).cell 0, (rowCells RC.out hw).cell 1, (rowCells RC.out hw).cell 2⟩
  have HN : Hid (Below w1.heap.size w1 w1) := Below.refl _ _
  clear RC
  go_region_held3 (fun w' => w'.cell? ⟨w.heap.size, 0, none⟩ = some (.int .i64 c.inputs) ∧ w'.cell? ⟨w.heap.size, 1, none⟩ = some (.slice GA gn gc) ∧ w'.cell? ⟨w.heap.size, 2, none⟩ = some (.slice OA on oc)) (exact HS _ (by first | exact below_on2 HN.out (by go_grown) | go_grown)) (first
    | (go_at_call 11
       refine (right_at c GA OA gn gc on oc _ (by exact HC.out.up (by first | exact below_on2 HN.out (by go_grown) | go_grown))).mono ?_
       rintro e w7 ⟨rfl, hb⟩
       have HN := (show Hid (Below w1.heap.size w1 w7) from below_on HN.out (by go_grown) hb)
       clear hb)
    | (go_at_call 12
       refine (rRight_at c GA OA gn gc on oc _ (by exact HC.out.up (by first | exact below_on2 HN.out (by go_grown) | go_grown))).mono ?_
       rintro e w7 ⟨rfl, hb⟩
       have HN := (show Hid (Below w1.heap.size w1 w7) from below_on HN.out (by go_grown) hb)
       clear hb)
    | (go_at_call 13
       refine (depth_any c GA OA gn gc on oc _ (by exact HC.out.up (by first | exact below_on2 HN.out (by go_grown) | go_grown))).mono ?_
       rintro e w7 ⟨rfl, hb⟩
       have HN := (show Hid (Below w1.heap.size w1 w7) from below_on HN.out (by go_grown) hb)
       clear hb)
    | (go_at_call 14
       refine (rDepth_any c GA OA gn gc on oc _ (by exact HC.out.up (by first | exact below_on2 HN.out (by go_grown) | go_grown))).mono ?_
       rintro e w7 ⟨rfl, hb⟩
       have HN := (show Hid (Below w1.heap.size w1 w7) from below_on HN.out (by go_grown) hb)
       clear hb)
    | (go_at_call 10
       refine (alive_any _).mono ?_
       rintro e w7 ⟨rfl, hb⟩
       have HN := (show Hid (Below w1.heap.size w1 w7) from below_on HN.out (by go_grown) hb)
       clear hb))
  all_goals
    go_wp2
    go_ret
    exact ⟨rfl, below_on HB.out HN.out (by go_grown)⟩

set_option maxRecDepth 100000 in
set_option maxHeartbeats 2000000 in
theorem lawSame_any (a b : Circ) (GA OA GB OB : Option Addr) (gn gc on oc hn hc pn pc : Nat) (w : World) (hA : CAt w a GA OA gn on) (hB : CAt w b GB OB hn pn) :
    Calls Try.prog 8 #[.agg #[.int .i64 a.inputs, .slice GA gn gc, .slice OA on oc], .agg #[.int .i64 b.inputs, .slice GB hn hc, .slice OB pn pc]] w fun e w' => e = .returned (.bool true) ∧ Below w.heap.size w w' := by
  have H : Hid (CAt w a GA OA gn on) := hA
  have H' : Hid (CAt w b GB OB hn pn) := hB
  have hs : sameC a a = true := sameC_self a
  have x1 := hA.g63
  have x2 := hA.o63
  have x3 := hB.g63
  have x4 := hB.o63
  unfold maxLen at x1 x2 x3 x4
  clear hA hB
  go_enter Try.func8, Try.ntmps8
  go_wp2_with (go_at_call 10
               refine (alive_any _).mono ?_
               rintro e w2 ⟨rfl, hb⟩
               have HB2 : Hid (Below w.heap.size w w2) := below_next hb (by go_grown)
               clear hb)
  all_goals first | (go_ret; exact ⟨rfl, HB2.out⟩) | skip
  have RA : Hid (Row (World.alloc (World.alloc w _) _) w.heap.size 25 [.int .i64 a.inputs, .slice GA gn gc, .slice OA on oc]) := (Row.new w 25 [.int .i64 a.inputs, .slice GA gn gc, .slice OA on oc]).alloc (.cells #[.int .i64 b.inputs, .slice GB hn hc, .slice OB pn pc] 25)
  have RB : Hid (Row (World.alloc (World.alloc w (.cells #[.int .i64 a.inputs, .slice GA gn gc, .slice OA on oc] 25)) _) (w.heap.size + 1) 25 [.int .i64 b.inputs, .slice GB hn hc, .slice OB pn pc]) := row_new1 w _ 25 [.int .i64 b.inputs, .slice GB hn hc, .slice OB pn pc]
  have HB : Hid (Below w.heap.size w (World.alloc (World.alloc w (.cells #[.int .i64 a.inputs, .slice GA gn gc, .slice OA on oc] 25)) (.cells #[.int .i64 b.inputs, .slice GB hn hc, .slice OB pn pc] 25))) := by show Below _ _ _; go_grown
  revert RA RB HB
  generalize World.alloc (World.alloc w (.cells #[.int .i64 a.inputs, .slice GA gn gc, .slice OA on oc] 25)) (.cells #[.int .i64 b.inputs, .slice GB hn hc, .slice OB pn pc] 25) = w1
  intro RA RB HB
  have HC : Hid (CAt w1 a GA OA gn on) := H.out.up HB.out
  have HC' : Hid (CAt w1 b GB OB hn pn) := H'.out.up HB.out
  have HS : ∀ w', Below w1.heap.size w1 w' → w'.cell? ⟨w.heap.size, 0, none⟩ = some (.int .i64 a.inputs) ∧ w'.cell? ⟨w.heap.size, 1, none⟩ = some (.slice GA gn gc) ∧ w'.cell? ⟨w.heap.size, 2, none⟩ = some (.slice OA on oc) ∧ w'.cell? ⟨w.heap.size + 1, 0, none⟩ = some (.int .i64 b.inputs) ∧ w'.cell? ⟨w.heap.size + 1, 1, none⟩ = some (.slice GB hn hc) ∧ w'.cell? ⟨w.heap.size + 1, 2, none⟩ = some (.slice OB pn pc) := fun w' hw => ⟨(rowCells RA.out hw).cell 0, (rowCells RA.out hw).cell 1, (rowCells RA.out hw).cell 2, (rowCells RB.out hw).cell 0, (rowCells RB.out hw).cell 1, (rowCells RB.out hw).cell 2⟩
  have HN : Hid (Below w1.heap.size w1 w1) := Below.refl _ _
  clear RA RB
  go_region_held3 (fun w' => w'.cell? ⟨w.heap.size, 0, none⟩ = some (.int .i64 a.inputs) ∧ w'.cell? ⟨w.heap.size, 1, none⟩ = some (.slice GA gn gc) ∧ w'.cell? ⟨w.heap.size, 2, none⟩ = some (.slice OA on oc) ∧ w'.cell? ⟨w.heap.size + 1, 0, none⟩ = some (.int .i64 b.inputs) ∧ w'.cell? ⟨w.heap.size + 1, 1, none⟩ = some (.slice GB hn hc) ∧ w'.cell? ⟨w.heap.size + 1, 2, none⟩ = some (.slice OB pn pc)) (exact HS _ (by first | exact below_on2 HN.out (by go_grown) | go_grown)) (first
    | (go_at_call_of 23 (Value.agg #[.int .i64 b.inputs, .slice GB hn hc, .slice OB pn pc])
       refine (same_any a.inputs b.inputs GA OA GB OB gn gc on oc hn hc pn pc a.gates b.gates a.outs b.outs _ (by exact (HC.out.up (by first | exact below_on2 HN.out (by go_grown) | go_grown)).gates) (by exact (HC.out.up (by first | exact below_on2 HN.out (by go_grown) | go_grown)).outs) (by unfold maxLen; omega) (by unfold maxLen; omega) (by exact (HC'.out.up (by first | exact below_on2 HN.out (by go_grown) | go_grown)).gates) (by exact (HC'.out.up (by first | exact below_on2 HN.out (by go_grown) | go_grown)).outs) (by unfold maxLen; omega) (by unfold maxLen; omega)).mono ?_
       rintro e w7 ⟨rfl, hb⟩
       have HN := (show Hid (Below w1.heap.size w1 w7) from below_on HN.out (by go_grown) hb)
       clear hb)
    | (go_at_call 23
       refine (same_any a.inputs a.inputs GA OA GA OA gn gc on oc gn gc on oc a.gates a.gates a.outs a.outs _ (by exact (HC.out.up (by first | exact below_on2 HN.out (by go_grown) | go_grown)).gates) (by exact (HC.out.up (by first | exact below_on2 HN.out (by go_grown) | go_grown)).outs) (by unfold maxLen; omega) (by unfold maxLen; omega) (by exact (HC.out.up (by first | exact below_on2 HN.out (by go_grown) | go_grown)).gates) (by exact (HC.out.up (by first | exact below_on2 HN.out (by go_grown) | go_grown)).outs) (by unfold maxLen; omega) (by unfold maxLen; omega)).mono ?_
       rw [show sameC ⟨a.inputs, a.gates, a.outs⟩ ⟨a.inputs, a.gates, a.outs⟩ = true from hs]
       rintro e w7 ⟨rfl, hb⟩
       have HN := (show Hid (Below w1.heap.size w1 w7) from below_on HN.out (by go_grown) hb)
       clear hb)
    | (go_at_call 22
       refine (rSame_any a.inputs b.inputs GA OA GB OB gn gc on oc hn hc pn pc a.gates b.gates a.outs b.outs _ (by exact (HC.out.up (by first | exact below_on2 HN.out (by go_grown) | go_grown)).gates) (by exact (HC.out.up (by first | exact below_on2 HN.out (by go_grown) | go_grown)).outs) (by unfold maxLen; omega) (by unfold maxLen; omega) (by exact (HC'.out.up (by first | exact below_on2 HN.out (by go_grown) | go_grown)).gates) (by exact (HC'.out.up (by first | exact below_on2 HN.out (by go_grown) | go_grown)).outs) (by unfold maxLen; omega) (by unfold maxLen; omega)).mono ?_
       rintro e w7 ⟨rfl, hb⟩
       have HN := (show Hid (Below w1.heap.size w1 w7) from below_on HN.out (by go_grown) hb)
       clear hb)
    | (go_at_call 10
       refine (alive_any _).mono ?_
       rintro e w7 ⟨rfl, hb⟩
       have HN := (show Hid (Below w1.heap.size w1 w7) from below_on HN.out (by go_grown) hb)
       clear hb))
  all_goals
    go_wp2
    go_ret
    exact ⟨rfl, below_on HB.out HN.out (by go_grown)⟩
end Go.Proofs.Ythmkcckoeodhnaa
