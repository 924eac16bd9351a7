/-
  Few, Adder, alive: what every law calls.
-/
import Derived.Test.YthmkcckoeodhnaaCRefJoin2
import Derived.Test.YthmkcckoeodhnaaCJoin2
import Derived.Test.YthmkcckoeodhnaaCRefDepth
import Derived.Test.YthmkcckoeodhnaaCDepth
import Derived.Test.YthmkcckoeodhnaaCRefWords
import Derived.Test.YthmkcckoeodhnaaCEval
import Derived.Test.YthmkcckoeodhnaaCSame
import Derived.Test.YthmkcckoeodhnaaSameBools
import Derived.Deep.RegionHeld3
namespace Go.Proofs.Ythmkcckoeodhnaa
open Go.RowKit
set_option linter.unusedSimpArgs false
set_option linter.unusedVariables false

def fewC (c : Circ) : Bool := decide (c.gates.length ≤ 2000 ∧ c.inputs ≤ 1100 ∧ c.outs.length ≤ 1100)

set_option maxHeartbeats 400000 in
theorem few_any (c : Circ) (GA OA : Option Addr) (gn gc on oc : Nat) (w : World) (h : CAt w c GA OA gn on) :
    Calls Try.prog 9 #[.agg #[.int .i64 c.inputs, .slice GA gn gc, .slice OA on oc]] w fun e w' => e = .returned (.bool (fewC c)) ∧ Below w.heap.size w w' := by
  have HG : Hid (c.gates.length = gn) := h.gl
  have HO : Hid (c.outs.length = on) := h.ol
  have h1 := h.g63
  have h2 := h.o63
  unfold maxLen at h1 h2
  clear h
  go_enter Try.func9, Try.ntmps9
  go_wp2
  all_goals go_ret
  all_goals refine ⟨ret_bool ?_, by go_grown⟩
  all_goals (unfold fewC; rw [HG.out, HO.out]; rw [Bool.eq_iff_iff]; simp; omega)

def adder : Circ := ⟨2, [⟨5, 0, 1⟩, ⟨3, 0, 1⟩], [2, 3]⟩

set_option maxHeartbeats 400000 in
theorem adder_any (w : World) :
    Calls Try.prog 24 #[] w fun e w' => ∃ g o, e = .returned (.agg #[.int .i64 2, .slice (some ⟨g, 0, none⟩) 2 2, .slice (some ⟨o, 0, none⟩) 2 2]) ∧ CAt w' adder (some ⟨g, 0, none⟩) (some ⟨o, 0, none⟩) 2 2 ∧ Below w.heap.size w w' := by
  go_enter Try.func24, Try.ntmps24
  go_wp2
  refine bodyPost_ret (v := .agg #[.int .i64 2, .slice (some ⟨w.heap.size + 1, 0, none⟩) 2 2, .slice (some ⟨w.heap.size + 1 + 1, 0, none⟩) 2 2]) (by simp [results, Try.results24, go_sem]) rfl ⟨w.heap.size + 1, w.heap.size + 1 + 1, rfl, ⟨?_, ?_, by unfold maxLen; omega, by unfold maxLen; omega⟩, by go_grown⟩
  · exact ((row_new1 w _ 46 [.int .i64 5, .int .i64 0, .int .i64 1, .int .i64 3, .int .i64 0, .int .i64 1]).alloc _).rd rfl
  · exact (row_new2 w _ _ 3 [.int .i64 2, .int .i64 3]).rd rfl

def adder2 : Circ := ⟨2, [⟨5, 0, 1⟩, ⟨3, 0, 1⟩, ⟨5, 2, 3⟩, ⟨3, 2, 3⟩], [4, 5]⟩
theorem al_join : joinR adder adder = adder2 ∧ joinErr adder adder = 0 := ⟨rfl, rfl⟩
theorem al_ok : okC adder 2 = true := by decide
theorem al_ok2 : okC adder2 2 = true := by decide
theorem al_bad : okC adder 0 = false := by decide
theorem al_eval : (outsG evalW 0 adder ([true, true].map bw)).map lo = [false, true] := by decide
theorem al_eval2 : (outsG evalW 0 adder2 ([true, true].map bw)).map lo = [true, false] := by decide
theorem al_words : outsG evalW 0 adder [12, 10] = [6, 8] := by decide
theorem al_depth : depthC adder = 1 ∧ depthC adder2 = 2 := by decide
theorem al_right : rightC adder = true ∧ rightC ⟨0, [⟨2, 0, 0⟩], []⟩ = false := by decide
theorem al_same : sameC adder adder = true ∧ sameC adder adder2 = false := by decide
theorem below_next {w W w' : World} (hb : Below W.heap.size W w') (hw : Below w.heap.size w W) : Below w.heap.size w w' := hw.trans (hb.mono hw.size)
theorem below_on {w W1 W w' : World} (h0 : Below w.heap.size w W1) (h1 : Below W1.heap.size W1 W) (hb : Below W.heap.size W w') : Below w.heap.size w w' := h0.trans ((h1.trans (hb.mono h1.size)).mono h0.size)
theorem below_on2 {w W1 W : World} (h0 : Below w.heap.size w W1) (h1 : Below W1.heap.size W1 W) : Below w.heap.size w W := h0.trans (h1.mono h0.size)
theorem rowCells {w : World} {g : Nat} {T : TypeId} {xs : List Value} (h : Row w g T xs) {w' : World} (hb : Below w.heap.size w w') : Row w' g T xs := h.below hb h.lt

set_option maxRecDepth 100000 in
set_option maxHeartbeats 4000000 in
/-- The fixed examples hold. -/
theorem alive_any (w : World) : Calls Try.prog 10 #[] w fun e w' => e = .returned (.bool true) ∧ Below w.heap.size w w' := by
  go_enter Try.func10, Try.ntmps10
  go_wp2_with fail
  refine (adder_any _).mono ?_
  rintro e w1 ⟨g, o, rfl, hc, hb1⟩
  have HC : Hid (CAt w1 adder (some ⟨g, 0, none⟩) (some ⟨o, 0, none⟩) 2 2) := hc
  have HB : Hid (Below w.heap.size w w1) := hb1
  clear hc hb1
  go_wp2_with fail
  refine (eval_head adder (some ⟨g, 0, none⟩) (some ⟨o, 0, none⟩) (some ⟨w1.heap.size + 1, 0, none⟩) 2 2 2 2 2 2 [true, true] _ (HC.out.up (by go_grown)) ((row_new1 w1 _ 4 [.bool true, .bool true]).rd rfl) (by omega)).mono ?_
  rintro e w2 (⟨hk, _⟩ | ⟨_, g2, rfl, hrow, _, hb⟩)
  · rw [al_ok] at hk; cases hk
  rw [al_eval] at hrow
  have RV : Hid (Row w2 g2 4 (bools [false, true])) := hrow
  have RC : Hid (Row w2 w1.heap.size 25 [.int .i64 2, .slice (some ⟨g, 0, none⟩) 2 2, .slice (some ⟨o, 0, none⟩) 2 2]) := rowCells ((Row.new w1 25 [.int .i64 2, .slice (some ⟨g, 0, none⟩) 2 2, .slice (some ⟨o, 0, none⟩) 2 2]).alloc _) hb
  have hn : Below w1.heap.size w1 w2 := below_next hb (by go_grown)
  have HC := (show Hid (CAt w2 _ _ _ _ _) from HC.out.up hn)
  have HB := (show Hid (Below w.heap.size w w2) from below_next hn HB.out)
  clear hrow hb hn
  have c0 := RC.out.cell 0
  have c1 := RC.out.cell 1
  have c2 := RC.out.cell 2
  simp only [List.getElem?_cons_zero, List.getElem?_cons_succ, w64s, w64, bools, List.map_cons, List.map_nil] at c0 c1 c2
  go_wp2_with fail
  refine (words_ok adder (some ⟨g, 0, none⟩) (some ⟨o, 0, none⟩) (some ⟨w2.heap.size, 0, none⟩) 2 2 2 2 2 2 [12, 10] _ (HC.out.up (by go_grown)) ((Row.new w2 38 (w64s [12, 10])).rd rfl) al_ok).mono ?_
  rintro e w3 ⟨g3, rfl, hrow, _, hb⟩
  rw [al_words] at hrow
  have RW : Hid (Row w3 g3 38 (w64s [6, 8])) := hrow
  have hn : Below w2.heap.size w2 w3 := below_next hb (by go_grown)
  have RC := (show Hid (Row w3 _ _ _) from rowCells RC.out hn)
  have RV := (show Hid (Row w3 _ _ _) from rowCells RV.out hn)
  have HC := (show Hid (CAt w3 _ _ _ _ _) from HC.out.up hn)
  have HB := (show Hid (Below w.heap.size w w3) from below_next hn HB.out)
  clear hrow hb hn c0 c1 c2
  have c0 := RC.out.cell 0
  have c1 := RC.out.cell 1
  have c2 := RC.out.cell 2
  simp only [List.getElem?_cons_zero, List.getElem?_cons_succ, w64s, w64, bools, List.map_cons, List.map_nil] at c0 c1 c2
  go_wp2_with fail
  refine (join_any adder adder (some ⟨g, 0, none⟩) (some ⟨o, 0, none⟩) (some ⟨g, 0, none⟩) (some ⟨o, 0, none⟩) 2 2 2 2 2 2 2 2 _ (HC.out.up (by go_grown)) (HC.out.up (by go_grown))).mono ?_
  rintro e w4 ⟨JA, JO, jn, jc, jon, joc, rfl, hj, hb⟩
  rw [al_join.1] at hj ⊢
  rw [al_join.2]
  obtain rfl : 4 = jn := hj.gl
  obtain rfl : 2 = jon := hj.ol
  have HJ : Hid (CAt w4 adder2 JA JO 4 2) := hj
  have hn : Below w3.heap.size w3 w4 := below_next hb (by go_grown)
  have RC := (show Hid (Row w4 _ _ _) from rowCells RC.out hn)
  have RV := (show Hid (Row w4 _ _ _) from rowCells RV.out hn)
  have RW := (show Hid (Row w4 _ _ _) from rowCells RW.out hn)
  have HC := (show Hid (CAt w4 _ _ _ _ _) from HC.out.up hn)
  have HB := (show Hid (Below w.heap.size w w4) from below_next hn HB.out)
  clear hj hb hn c0 c1 c2
  have c0 := RC.out.cell 0
  have c1 := RC.out.cell 1
  have c2 := RC.out.cell 2
  simp only [List.getElem?_cons_zero, List.getElem?_cons_succ, w64s, w64, bools, List.map_cons, List.map_nil] at c0 c1 c2
  go_wp2_with fail
  refine (eval_head adder2 JA JO (some ⟨w4.heap.size + 1, 0, none⟩) 4 jc 2 joc 2 2 [true, true] _ (HJ.out.up (by go_grown)) ((row_new1 w4 _ 4 [.bool true, .bool true]).rd rfl) (by omega)).mono ?_
  rintro e w5 (⟨hk, _⟩ | ⟨_, g5, rfl, hrow, _, hb⟩)
  · rw [al_ok2] at hk; cases hk
  rw [al_eval2] at hrow
  have RX : Hid (Row w5 g5 4 (bools [true, false])) := hrow
  have RJ : Hid (Row w5 w4.heap.size 25 [.int .i64 2, .slice JA 4 jc, .slice JO 2 joc]) := rowCells ((Row.new w4 25 [.int .i64 2, .slice JA 4 jc, .slice JO 2 joc]).alloc _) hb
  have hn : Below w4.heap.size w4 w5 := below_next hb (by go_grown)
  have RC := (show Hid (Row w5 _ _ _) from rowCells RC.out hn)
  have RV := (show Hid (Row w5 _ _ _) from rowCells RV.out hn)
  have RW := (show Hid (Row w5 _ _ _) from rowCells RW.out hn)
  have HC := (show Hid (CAt w5 _ _ _ _ _) from HC.out.up hn)
  have HJ := (show Hid (CAt w5 _ _ _ _ _) from HJ.out.up hn)
  have HB := (show Hid (Below w.heap.size w w5) from below_next hn HB.out)
  clear hrow hb hn c0 c1 c2
  have c0 := RC.out.cell 0
  have c1 := RC.out.cell 1
  have c2 := RC.out.cell 2
  simp only [List.getElem?_cons_zero, List.getElem?_cons_succ, w64s, w64, bools, List.map_cons, List.map_nil] at c0 c1 c2
  go_wp2_with fail
  refine (eval_head adder (some ⟨g, 0, none⟩) (some ⟨o, 0, none⟩) none 2 2 2 2 0 0 [] _ (HC.out.up (by go_grown)) (Rd.empty none) (by omega)).mono ?_
  rintro e w6 (⟨_, rfl, hb⟩ | ⟨hk, _⟩)
  rotate_left
  · rw [al_bad] at hk; cases hk
  have hn : Below w5.heap.size w5 w6 := below_next hb (by go_grown)
  have RC := (show Hid (Row w6 _ _ _) from rowCells RC.out hn)
  have RV := (show Hid (Row w6 _ _ _) from rowCells RV.out hn)
  have RW := (show Hid (Row w6 _ _ _) from rowCells RW.out hn)
  have RX := (show Hid (Row w6 _ _ _) from rowCells RX.out hn)
  have RJ := (show Hid (Row w6 _ _ _) from rowCells RJ.out hn)
  have HC := (show Hid (CAt w6 _ _ _ _ _) from HC.out.up hn)
  have HJ := (show Hid (CAt w6 _ _ _ _ _) from HJ.out.up hn)
  have HB := (show Hid (Below w.heap.size w w6) from below_next hn HB.out)
  clear hb hn c0 c1 c2
  go_wp2_with fail
  have HS : ∀ w', Below w6.heap.size w6 w' → w'.cell? ⟨w1.heap.size, 0, none⟩ = some (.int .i64 2) ∧ w'.cell? ⟨w1.heap.size, 1, none⟩ = some (.slice (some ⟨g, 0, none⟩) 2 2) ∧ w'.cell? ⟨w1.heap.size, 2, none⟩ = some (.slice (some ⟨o, 0, none⟩) 2 2) ∧ w'.cell? ⟨w4.heap.size, 0, none⟩ = some (.int .i64 2) ∧ w'.cell? ⟨w4.heap.size, 1, none⟩ = some (.slice JA 4 jc) ∧ w'.cell? ⟨w4.heap.size, 2, none⟩ = some (.slice JO 2 joc) ∧ w'.cell? ⟨g3, 0, none⟩ = some (.int .u64 6) ∧ w'.cell? ⟨g3, 1, none⟩ = some (.int .u64 8) := fun w' hw => ⟨(rowCells RC.out hw).cell 0, (rowCells RC.out hw).cell 1, (rowCells RC.out hw).cell 2, (rowCells RJ.out hw).cell 0, (rowCells RJ.out hw).cell 1, (rowCells RJ.out hw).cell 2, (rowCells RW.out hw).cell 0, (rowCells RW.out hw).cell 1⟩
  have HN : Hid (Below w6.heap.size w6 w6) := Below.refl _ _
  clear RC RJ RW
  simp only [List.append_eq, List.cons_append, List.nil_append]
  go_region_held3 (fun w' => w'.cell? ⟨w1.heap.size, 0, none⟩ = some (.int .i64 2) ∧ w'.cell? ⟨w1.heap.size, 1, none⟩ = some (.slice (some ⟨g, 0, none⟩) 2 2) ∧ w'.cell? ⟨w1.heap.size, 2, none⟩ = some (.slice (some ⟨o, 0, none⟩) 2 2) ∧ w'.cell? ⟨w4.heap.size, 0, none⟩ = some (.int .i64 2) ∧ w'.cell? ⟨w4.heap.size, 1, none⟩ = some (.slice JA 4 jc) ∧ w'.cell? ⟨w4.heap.size, 2, none⟩ = some (.slice JO 2 joc) ∧ w'.cell? ⟨g3, 0, none⟩ = some (.int .u64 6) ∧ w'.cell? ⟨g3, 1, none⟩ = some (.int .u64 8)) (exact HS _ (by first | exact below_on2 HN.out (by go_grown) | go_grown)) (first
    | (go_at_call_of 17 (Value.slice (some ⟨g2, 0, none⟩) 2 2)
       refine (sameBools_any (some ⟨g2, 0, none⟩) (some ⟨_, 0, none⟩) 2 2 2 2 [false, true] [false, true] _ (by exact (rowCells RV.out (by first | exact below_on2 HN.out (by go_grown) | go_grown)).rd rfl) (by first | exact (Row.new _ _ [.bool false, .bool true]).drew.rd rfl | exact (Row.new _ _ [.bool false, .bool true]).rd rfl) (by unfold maxLen; omega) (by unfold maxLen; omega)).mono ?_
       rw [show decide (([false, true] : List Bool) = [false, true]) = true from rfl]
       rintro e w7 ⟨rfl, hb⟩
       have HN := (show Hid (Below w6.heap.size w6 w7) from below_on HN.out (by go_grown) hb)
       clear hb)
    | (go_at_call_of 17 (Value.slice (some ⟨g5, 0, none⟩) 2 2)
       refine (sameBools_any (some ⟨g5, 0, none⟩) (some ⟨_, 0, none⟩) 2 2 2 2 [true, false] [true, false] _ (by exact (rowCells RX.out (by first | exact below_on2 HN.out (by go_grown) | go_grown)).rd rfl) (by first | exact (Row.new _ _ [.bool true, .bool false]).rd rfl | exact (Row.new _ _ [.bool true, .bool false]).drew.rd rfl) (by unfold maxLen; omega) (by unfold maxLen; omega)).mono ?_
       rw [show decide (([true, false] : List Bool) = [true, false]) = true from rfl]
       rintro e w7 ⟨rfl, hb⟩
       have HN := (show Hid (Below w6.heap.size w6 w7) from below_on HN.out (by go_grown) hb)
       clear hb)
    | (go_at_call_of 13 (Value.agg #[.int .i64 2, .slice (some ⟨g, 0, none⟩) 2 2, .slice (some ⟨o, 0, none⟩) 2 2])
       refine (depth_any adder (some ⟨g, 0, none⟩) (some ⟨o, 0, none⟩) 2 2 2 2 _ (by exact HC.out.up (by first | exact below_on2 HN.out (by go_grown) | go_grown))).mono ?_
       rw [al_depth.1]
       rintro e w7 ⟨rfl, hb⟩
       have HN := (show Hid (Below w6.heap.size w6 w7) from below_on HN.out (by go_grown) hb)
       clear hb)
    | (go_at_call_of 13 (Value.agg #[.int .i64 2, .slice JA 4 jc, .slice JO 2 joc])
       refine (depth_any adder2 JA JO 4 jc 2 joc _ (by exact HJ.out.up (by first | exact below_on2 HN.out (by go_grown) | go_grown))).mono ?_
       rw [al_depth.2]
       rintro e w7 ⟨rfl, hb⟩
       have HN := (show Hid (Below w6.heap.size w6 w7) from below_on HN.out (by go_grown) hb)
       clear hb)
    | (go_at_call_of 11 (Value.agg #[.int .i64 2, .slice (some ⟨g, 0, none⟩) 2 2, .slice (some ⟨o, 0, none⟩) 2 2])
       refine (right_at adder (some ⟨g, 0, none⟩) (some ⟨o, 0, none⟩) 2 2 2 2 _ (by exact HC.out.up (by first | exact below_on2 HN.out (by go_grown) | go_grown))).mono ?_
       rw [al_right.1]
       rintro e w7 ⟨rfl, hb⟩
       have HN := (show Hid (Below w6.heap.size w6 w7) from below_on HN.out (by go_grown) hb)
       clear hb)
    | (go_at_call 11
       refine (right_at ⟨0, [⟨2, 0, 0⟩], []⟩ (some ⟨_, 0, none⟩) none 1 1 0 0 _ ⟨(by first | exact (Row.new _ _ [.int .i64 2, .int .i64 0, .int .i64 0]).rd rfl | exact (Row.new _ _ [.int .i64 2, .int .i64 0, .int .i64 0]).drew.rd rfl), Rd.empty none, (by unfold maxLen; omega), (by unfold maxLen; omega)⟩).mono ?_
       rw [al_right.2]
       rintro e w7 ⟨rfl, hb⟩
       have HN := (show Hid (Below w6.heap.size w6 w7) from below_on HN.out (by go_grown) hb)
       clear hb)
    | (go_at_call 24
       refine (adder_any _).mono ?_
       rintro e w7 ⟨g', o', rfl, hc', hb⟩
       have HC' : Hid (CAt w7 adder (some ⟨g', 0, none⟩) (some ⟨o', 0, none⟩) 2 2) := hc'
       have HN := (show Hid (Below w6.heap.size w6 w7) from below_on HN.out (by go_grown) hb)
       clear hb hc')
    | (go_at_call_of 23 (Value.agg #[.int .i64 2, .slice JA 4 jc, .slice JO 2 joc])
       refine (same_any 2 2 (some ⟨g, 0, none⟩) (some ⟨o, 0, none⟩) JA JO 2 2 2 2 4 jc 2 joc adder.gates adder2.gates adder.outs adder2.outs _ (by exact (HC.out.up (by first | exact below_on2 HN.out (by go_grown) | go_grown)).gates) (by exact (HC.out.up (by first | exact below_on2 HN.out (by go_grown) | go_grown)).outs) (by unfold maxLen; omega) (by unfold maxLen; omega) (by exact (HJ.out.up (by first | exact below_on2 HN.out (by go_grown) | go_grown)).gates) (by exact (HJ.out.up (by first | exact below_on2 HN.out (by go_grown) | go_grown)).outs) (by unfold maxLen; omega) (by unfold maxLen; omega)).mono ?_
       rw [show sameC ⟨2, adder.gates, adder.outs⟩ ⟨2, adder2.gates, adder2.outs⟩ = false from al_same.2]
       rintro e w7 ⟨rfl, hb⟩
       have HN := (show Hid (Below w6.heap.size w6 w7) from below_on HN.out (by go_grown) hb)
       clear hb)
    | (go_at_call 23
       refine (same_any 2 2 (some ⟨g, 0, none⟩) (some ⟨o, 0, none⟩) (some ⟨g', 0, none⟩) (some ⟨o', 0, none⟩) 2 2 2 2 2 2 2 2 adder.gates adder.gates adder.outs adder.outs _ (by exact (HC.out.up (by first | exact below_on2 HN.out (by go_grown) | go_grown)).gates) (by exact (HC.out.up (by first | exact below_on2 HN.out (by go_grown) | go_grown)).outs) (by unfold maxLen; omega) (by unfold maxLen; omega) (by exact (HC'.out.up (by go_grown)).gates) (by exact (HC'.out.up (by go_grown)).outs) (by unfold maxLen; omega) (by unfold maxLen; omega)).mono ?_
       rw [show sameC ⟨2, adder.gates, adder.outs⟩ ⟨2, adder.gates, adder.outs⟩ = true from al_same.1]
       rintro e w7 ⟨rfl, hb⟩
       have HN := (show Hid (Below w6.heap.size w6 w7) from below_on HN.out (by go_grown) hb)
       clear hb))
  all_goals
    go_wp2
    go_ret
    exact ⟨rfl, below_on HB.out HN.out (by go_grown)⟩
end Go.Proofs.Ythmkcckoeodhnaa
