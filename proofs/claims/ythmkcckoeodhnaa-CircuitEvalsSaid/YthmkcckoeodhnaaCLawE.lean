/-
  The law CircuitEvals: what it does.
-/
import Derived.Test.YthmkcckoeodhnaaCAlive
import Derived.Test.YthmkcckoeodhnaaCJLaw
namespace Go.Proofs.Ythmkcckoeodhnaa
open Go.RowKit
set_option linter.unusedSimpArgs false
set_option linter.unusedVariables false

set_option maxRecDepth 100000 in
set_option maxHeartbeats 2000000 in
theorem lawEvals_any (c : Circ) (GA OA IA : Option Addr) (gn gc on oc n ic : Nat) (ins : List Bool) (w : World) (h : CAt w c GA OA gn on) (hI : Rd w w.heap.size 1 IA n (bools ins)) (hnm : n ≤ maxLen) :
    Calls Try.prog 4 #[.agg #[.int .i64 c.inputs, .slice GA gn gc, .slice OA on oc], .slice IA n ic] w fun e w' => e = .returned (.bool true) ∧ Below w.heap.size w w' := by
  have H : Hid (CAt w c GA OA gn on) := h
  have HI : Hid (Rd w w.heap.size 1 IA n (bools ins)) := hI
  have hom := h.o63
  unfold maxLen at hnm hom
  clear h hI
  go_enter Try.func4, Try.ntmps4
  go_wp2_with fail
  refine (few_any c GA OA gn gc on oc _ (H.out.up (by go_grown))).mono ?_
  rintro e w1 ⟨rfl, hb⟩
  have HB : Hid (Below w.heap.size w w1) := below_next hb (by go_grown)
  have HC : Hid (CAt w1 c GA OA gn on) := H.out.up HB.out
  have HJ : Hid (Rd w1 w1.heap.size 1 IA n (bools ins)) := HI.out.up HB.out
  have RC : Hid (Row w1 w.heap.size 25 [.int .i64 c.inputs, .slice GA gn gc, .slice OA on oc]) := rowCells (Row.new w 25 [.int .i64 c.inputs, .slice GA gn gc, .slice OA on oc]) hb
  clear hb
  cases hf : fewC c
  · clear RC
    go_wp2_with fail
    refine (alive_any _).mono ?_
    rintro e w2 ⟨rfl, hb⟩
    have HB2 : Hid (Below w.heap.size w w2) := below_on HB.out (by go_grown) hb
    clear hb
    go_wp2
    go_ret
    exact ⟨rfl, HB2.out⟩
  by_cases hn : 1100 < n
  · clear RC
    go_wp2_with fail
    refine (alive_any _).mono ?_
    rintro e w2 ⟨rfl, hb⟩
    have HB2 : Hid (Below w.heap.size w w2) := below_on HB.out (by go_grown) hb
    clear hb
    go_wp2
    go_ret
    exact ⟨rfl, HB2.out⟩
  have c0 := RC.out.cell 0
  have c1 := RC.out.cell 1
  have c2 := RC.out.cell 2
  simp only [List.getElem?_cons_zero, List.getElem?_cons_succ] at c0 c1 c2
  go_wp2_with fail
  refine (eval_head c GA OA IA gn gc on oc n ic ins _ HC.out HJ.out (by omega)).mono ?_
  rintro e w2 (⟨hk, rfl, hb⟩ | ⟨hk, g, rfl, hrow, _, hb⟩)
  · have HB2 : Hid (Below w.heap.size w w2) := below_on HB.out (Below.refl _ _) hb
    have RC2 : Hid (Row w2 w.heap.size 25 [.int .i64 c.inputs, .slice GA gn gc, .slice OA on oc]) := rowCells RC.out hb
    have HC2 : Hid (CAt w2 c GA OA gn on) := HC.out.up hb
    clear hb c0 c1 c2
    have c0 := RC2.out.cell 0
    have c1 := RC2.out.cell 1
    have c2 := RC2.out.cell 2
    simp only [List.getElem?_cons_zero, List.getElem?_cons_succ] at c0 c1 c2
    go_wp2_with fail
    refine (rEval_bad c GA OA IA gn gc on oc n ic _ HC2.out (by unfold maxLen; omega) hk).mono ?_
    rintro e w3 ⟨rfl, hb⟩
    have HB3 : Hid (Below w.heap.size w w3) := below_on HB2.out (Below.refl _ _) hb
    clear hb c0 c1 c2
    go_wp2_with fail
    refine (sameBools_any none none 0 0 0 0 [] [] _ (Rd.empty none) (Rd.empty none) (by unfold maxLen; omega) (by unfold maxLen; omega)).mono ?_
    rw [show decide (([] : List Bool) = []) = true from rfl]
    rintro e w4 ⟨rfl, hb⟩
    have HB4 : Hid (Below w.heap.size w w4) := below_on HB3.out (Below.refl _ _) hb
    clear hb
    go_wp2_with fail
    refine (alive_any _).mono ?_
    rintro e w5 ⟨rfl, hb⟩
    have HB5 : Hid (Below w.heap.size w w5) := below_on HB4.out (by go_grown) hb
    clear hb
    go_wp2
    go_ret
    exact ⟨rfl, HB5.out⟩
  · rw [eval_lo] at hrow
    have HB2 : Hid (Below w.heap.size w w2) := below_on HB.out (Below.refl _ _) hb
    have RC2 : Hid (Row w2 w.heap.size 25 [.int .i64 c.inputs, .slice GA gn gc, .slice OA on oc]) := rowCells RC.out hb
    have HC2 : Hid (CAt w2 c GA OA gn on) := HC.out.up hb
    have HJ2 : Hid (Rd w2 w2.heap.size 1 IA n (bools ins)) := HJ.out.up hb
    have RV : Hid (Row w2 g 4 (bools (outsG evalB false c ins))) := hrow
    have LO : Hid ((outsG evalB false c ins).length = on) := by have := HC.out.ol; show _ = _; simp [outsG, this]
    clear hb c0 c1 c2 hrow
    have c0 := RC2.out.cell 0
    have c1 := RC2.out.cell 1
    have c2 := RC2.out.cell 2
    simp only [List.getElem?_cons_zero, List.getElem?_cons_succ] at c0 c1 c2
    go_wp2_with fail
    refine (rEval_ok c GA OA IA gn gc on oc n ic ins _ HC2.out HJ2.out hk).mono ?_
    rintro e w3 ⟨v, rfl, hown, hb⟩
    obtain ⟨A, vc, rfl, hA⟩ := Rd.own hown
    have HA : Hid (Rd w3 w3.heap.size 1 A on (bools (outsG evalB false c ins))) := hA
    have HB3 : Hid (Below w.heap.size w w3) := below_on HB2.out (Below.refl _ _) hb
    have RV3 : Hid (Row w3 g 4 (bools (outsG evalB false c ins))) := rowCells RV.out hb
    clear hb c0 c1 c2 hA hown
    go_wp2_with fail
    refine (sameBools_any (some ⟨g, 0, none⟩) A on on on vc (outsG evalB false c ins) (outsG evalB false c ins) _ (by exact RV3.out.rd (by simp [LO.out])) (by exact HA.out) (by unfold maxLen; omega) (by unfold maxLen; omega)).mono ?_
    rw [show decide (outsG evalB false c ins = outsG evalB false c ins) = true from decide_eq_true rfl]
    rintro e w4 ⟨rfl, hb⟩
    have HB4 : Hid (Below w.heap.size w w4) := below_on HB3.out (Below.refl _ _) hb
    clear hb
    go_wp2_with fail
    refine (alive_any _).mono ?_
    rintro e w5 ⟨rfl, hb⟩
    have HB5 : Hid (Below w.heap.size w w5) := below_on HB4.out (by go_grown) hb
    clear hb
    go_wp2
    go_ret
    exact ⟨rfl, HB5.out⟩
end Go.Proofs.Ythmkcckoeodhnaa
