/-
  The law CircuitComposes: what it does.
-/
import Derived.Test.YthmkcckoeodhnaaCAlive
import Derived.Test.YthmkcckoeodhnaaCJLaw
namespace Go.Proofs.Ythmkcckoeodhnaa
open Go.RowKit
set_option linter.unusedSimpArgs false
set_option linter.unusedVariables false

theorem okC_next (a b : Circ) (n on : Nat) (h : Joins a b) (ho : a.outs.length = on) : okC b on = true := by
  simp only [okC, Bool.and_eq_true, decide_eq_true_eq]
  have := h.io
  exact ⟨h.rb, by omega⟩
theorem okC_len {c : Circ} {n : Nat} (h : okC c n = true) : (n : Int) = c.inputs := by
  simp only [okC, Bool.and_eq_true, decide_eq_true_eq] at h
  exact h.2

set_option maxRecDepth 100000 in
set_option maxHeartbeats 4000000 in
theorem lawComposes_any (a b : Circ) (GA OA GB OB IA : Option Addr) (gn gc on oc hn hc pn pc n ic : Nat) (ins : List Bool) (w : World) (hA : CAt w a GA OA gn on) (hB : CAt w b GB OB hn pn) (hI : Rd w w.heap.size 1 IA n (bools ins)) (hnm : n ≤ maxLen) :
    Calls Try.prog 7 #[.agg #[.int .i64 a.inputs, .slice GA gn gc, .slice OA on oc], .agg #[.int .i64 b.inputs, .slice GB hn hc, .slice OB pn pc], .slice IA n ic] w fun e w' => e = .returned (.bool true) ∧ Below w.heap.size w w' := by
  have H : Hid (CAt w a GA OA gn on) := hA
  have H' : Hid (CAt w b GB OB hn pn) := hB
  have HI : Hid (Rd w w.heap.size 1 IA n (bools ins)) := hI
  have hom := hA.o63
  have hpm := hB.o63
  unfold maxLen at hnm hom hpm
  clear hA hB hI
  go_enter Try.func7, Try.ntmps7
  go_wp2_with fail
  refine (few_any a GA OA gn gc on oc _ (H.out.up (by go_grown))).mono ?_
  rintro e w1 ⟨rfl, hb⟩
  have HB : Hid (Below w.heap.size w w1) := below_next hb (by go_grown)
  have RA : Hid (Row w1 w.heap.size 25 [.int .i64 a.inputs, .slice GA gn gc, .slice OA on oc]) := rowCells ((Row.new w 25 [.int .i64 a.inputs, .slice GA gn gc, .slice OA on oc]).alloc (.cells #[.int .i64 b.inputs, .slice GB hn hc, .slice OB pn pc] 25)) hb
  have RB : Hid (Row w1 (w.heap.size + 1) 25 [.int .i64 b.inputs, .slice GB hn hc, .slice OB pn pc]) := rowCells (row_new1 w _ 25 [.int .i64 b.inputs, .slice GB hn hc, .slice OB pn pc]) hb
  clear hb
  cases hf : fewC a
  · clear RA RB
    go_wp2_with fail
    refine (alive_any _).mono ?_
    rintro e w9 ⟨rfl, hb⟩
    have HBE : Hid (Below w.heap.size w w9) := below_on HB.out (by go_grown) hb
    clear hb
    go_wp2
    go_ret
    exact ⟨rfl, HBE.out⟩
  have c0 := RB.out.cell 0
  have c1 := RB.out.cell 1
  have c2 := RB.out.cell 2
  simp only [List.getElem?_cons_zero, List.getElem?_cons_succ] at c0 c1 c2
  go_wp2_with fail
  refine (few_any b GB OB hn hc pn pc _ (H'.out.up HB.out)).mono ?_
  rintro e w2 ⟨rfl, hb⟩
  have HB := (show Hid (Below w.heap.size w w2) from below_on2 HB.out hb)
  have RA := (show Hid (Row w2 _ _ _) from rowCells RA.out hb)
  have RB := (show Hid (Row w2 _ _ _) from rowCells RB.out hb)
  clear hb c0 c1 c2
  cases hf' : fewC b
  · clear RA RB
    go_wp2_with fail
    refine (alive_any _).mono ?_
    rintro e w9 ⟨rfl, hb⟩
    have HBE : Hid (Below w.heap.size w w9) := below_on HB.out (by go_grown) hb
    clear hb
    go_wp2
    go_ret
    exact ⟨rfl, HBE.out⟩
  have hon : on ≤ 1100 := by have := H.out.ol; simp only [fewC, decide_eq_true_eq, Bool.and_eq_true] at hf; omega
  clear hf hf'
  by_cases hn' : 1100 < n
  · clear RA RB
    go_wp2_with fail
    refine (alive_any _).mono ?_
    rintro e w9 ⟨rfl, hb⟩
    have HBE : Hid (Below w.heap.size w w9) := below_on HB.out (by go_grown) hb
    clear hb
    go_wp2
    go_ret
    exact ⟨rfl, HBE.out⟩
  have a0 := RA.out.cell 0
  have a1 := RA.out.cell 1
  have a2 := RA.out.cell 2
  have c0 := RB.out.cell 0
  have c1 := RB.out.cell 1
  have c2 := RB.out.cell 2
  simp only [List.getElem?_cons_zero, List.getElem?_cons_succ] at a0 a1 a2 c0 c1 c2
  go_wp2_with fail
  refine (join_any a b GA OA GB OB gn gc on oc hn hc pn pc _ (H.out.up HB.out) (H'.out.up HB.out)).mono ?_
  rintro e w3 ⟨JA, JO, jn, jc, jon, joc, rfl, hj, hb⟩
  have HJ : Hid (CAt w3 (joinR a b) JA JO jn jon) := hj
  have HB := (show Hid (Below w.heap.size w w3) from below_on2 HB.out hb)
  have RA := (show Hid (Row w3 _ _ _) from rowCells RA.out hb)
  have RB := (show Hid (Row w3 _ _ _) from rowCells RB.out hb)
  clear hb a0 a1 a2 c0 c1 c2 hj
  have a0 := RA.out.cell 0
  have a1 := RA.out.cell 1
  have a2 := RA.out.cell 2
  simp only [List.getElem?_cons_zero, List.getElem?_cons_succ] at a0 a1 a2
  have l1 := RA.out.lt
  go_wp2_with fail
  refine (eval_head a GA OA IA gn gc on oc n ic ins _ (H.out.up (below_on2 HB.out (by go_grown))) (HI.out.up (below_on2 HB.out (by go_grown))) (by omega)).mono ?_
  rintro e w4 hpost
  have HB4 : Hid (Below w.heap.size w w4) := by
    rcases hpost with ⟨_, _, hb⟩ | ⟨_, _, _, _, _, hb⟩
    · exact below_on HB.out (by go_grown) hb
    · exact below_on HB.out (by go_grown) hb
  have hn4 : Hid (Below w3.heap.size w3 w4) := by
    rcases hpost with ⟨_, _, hb⟩ | ⟨_, _, _, _, _, hb⟩
    · exact below_next hb (by go_grown)
    · exact below_next hb (by go_grown)
  have RJ : Hid (Row w4 w3.heap.size 25 [.int .i64 (joinR a b).inputs, .slice JA jn jc, .slice JO jon joc]) := by
    rcases hpost with ⟨_, _, hb⟩ | ⟨_, _, _, _, _, hb⟩
    · exact rowCells (Row.new w3 25 [.int .i64 (joinR a b).inputs, .slice JA jn jc, .slice JO jon joc]) hb
    · exact rowCells (Row.new w3 25 [.int .i64 (joinR a b).inputs, .slice JA jn jc, .slice JO jon joc]) hb
  have HJ := (show Hid (CAt w4 _ _ _ _ _) from HJ.out.up hn4.out)
  have RB := (show Hid (Row w4 _ _ _) from rowCells RB.out hn4.out)
  clear a0 a1 a2 l1 RA
  have HB := HB4
  clear HB4 hn4
  rcases hpost with ⟨hk, rfl, _⟩ | ⟨hk, g, rfl, hrow, _, _⟩
  · rcases joinErr_cases a b with h0 | h0 | h0
    all_goals
      rw [h0]
      clear RJ HJ RB
      go_wp2_with fail
      refine (alive_any _).mono ?_
      rintro e w9 ⟨rfl, hb⟩
      have HBE : Hid (Below w.heap.size w w9) := below_on HB.out (by go_grown) hb
      clear hb
      go_wp2
      go_ret
      exact ⟨rfl, HBE.out⟩
  rw [eval_lo] at hrow
  have RV : Hid (Row w4 g 4 (bools (outsG evalB false a ins))) := hrow
  have LO : Hid ((outsG evalB false a ins).length = on) := by have := H.out.ol; show _ = _; simp [outsG, this]
  clear hrow
  rcases joinErr_cases a b with h0 | h0 | h0
  rotate_left
  · rw [h0]
    clear RJ HJ RB RV
    go_wp2_with fail
    refine (alive_any _).mono ?_
    rintro e w9 ⟨rfl, hb⟩
    have HBE : Hid (Below w.heap.size w w9) := below_on HB.out (by go_grown) hb
    clear hb
    go_wp2
    go_ret
    exact ⟨rfl, HBE.out⟩
  · rw [h0]
    clear RJ HJ RB RV
    go_wp2_with fail
    refine (alive_any _).mono ?_
    rintro e w9 ⟨rfl, hb⟩
    have HBE : Hid (Below w.heap.size w w9) := below_on HB.out (by go_grown) hb
    clear hb
    go_wp2
    go_ret
    exact ⟨rfl, HBE.out⟩
  have hjo : Hid (Joins a b) := joins_of h0
  have hjr : joinR a b = joinC a b := by rw [joinR, if_pos h0]
  rw [h0]
  have hLI : Hid ((ins.length : Int) = a.inputs) := by have := HI.out.1; simp at this; have := okC_len hk; show _ = _; omega
  have hokb : Hid (okC b on = true) := okC_next a b n on hjo.out H.out.ol
  have hokj : Hid (okC (joinR a b) n = true) := by rw [hjr]; exact okC_join a b hjo.out n hk
  have hco : Hid (outsG evalB false (joinR a b) ins = outsG evalB false b (outsG evalB false a ins)) := by rw [hjr]; exact join_outs evalB false resp_evalB a b hjo.out ins hLI.out
  clear hk h0 hjr
  have c0 := RB.out.cell 0
  have c1 := RB.out.cell 1
  have c2 := RB.out.cell 2
  simp only [List.getElem?_cons_zero, List.getElem?_cons_succ] at c0 c1 c2
  go_wp2_with fail
  refine (eval_head b GB OB (some ⟨g, 0, none⟩) hn hc pn pc on on (outsG evalB false a ins) _ (H'.out.up HB.out) (by exact RV.out.rd (by simp [LO.out])) hon).mono ?_
  rintro e w5 (⟨hk, rfl, hb⟩ | ⟨_, g2, rfl, hrow, _, hb⟩)
  · rw [hokb.out] at hk; exact absurd hk (by simp)
  rw [eval_lo] at hrow
  have RV2 : Hid (Row w5 g2 4 (bools (outsG evalB false b (outsG evalB false a ins)))) := hrow
  have LO2 : Hid ((outsG evalB false b (outsG evalB false a ins)).length = pn) := by have := H'.out.ol; show _ = _; simp [outsG, this]
  have HB := (show Hid (Below w.heap.size w w5) from below_on2 HB.out hb)
  have HJ := (show Hid (CAt w5 _ _ _ _ _) from HJ.out.up hb)
  have RJ := (show Hid (Row w5 _ _ _) from rowCells RJ.out hb)
  clear hb hrow c0 c1 c2 RB RV
  have c0 := RJ.out.cell 0
  have c1 := RJ.out.cell 1
  have c2 := RJ.out.cell 2
  simp only [List.getElem?_cons_zero, List.getElem?_cons_succ] at c0 c1 c2
  go_wp2_with fail
  refine (eval_head (joinR a b) JA JO IA jn jc jon joc n ic ins _ HJ.out (HI.out.up HB.out) (by omega)).mono ?_
  rintro e w6 (⟨hk, rfl, hb⟩ | ⟨_, g3, rfl, hrow, _, hb⟩)
  · rw [hokj.out] at hk; exact absurd hk (by simp)
  rw [eval_lo, hco.out] at hrow
  have LJ : Hid (pn = jon) := by
    have e1 := HJ.out.ol
    have e2 : (outsG evalB false (joinR a b) ins).length = (joinR a b).outs.length := by simp [outsG]
    rw [hco.out, LO2.out] at e2
    show _ = _
    omega
  have RV3 : Hid (Row w6 g3 4 (bools (outsG evalB false b (outsG evalB false a ins)))) := hrow
  have HB := (show Hid (Below w.heap.size w w6) from below_on2 HB.out hb)
  have RV2 := (show Hid (Row w6 _ _ _) from rowCells RV2.out hb)
  clear hb hrow c0 c1 c2 RJ HJ
  generalize outsG evalB false b (outsG evalB false a ins) = zs at RV2 RV3 LO2 hco
  clear hco hokj hokb hjo hLI LO
  have hj : jon = pn := LJ.out.symm
  subst hj
  clear LJ
  go_wp2_with fail
  refine (sameBools_any (some ⟨g2, 0, none⟩) (some ⟨g3, 0, none⟩) jon jon jon jon zs zs _ (by exact RV2.out.rd (by simp [LO2.out])) (by exact RV3.out.rd (by simp [LO2.out])) (by unfold maxLen; omega) (by unfold maxLen; omega)).mono ?_
  rw [show decide (zs = zs) = true from decide_eq_true rfl]
  rintro e w7 ⟨rfl, hb⟩
  have HB := (show Hid (Below w.heap.size w w7) from below_on2 HB.out hb)
  clear hb RV2 RV3
  go_wp2_with fail
  refine (alive_any _).mono ?_
  rintro e w9 ⟨rfl, hb⟩
  have HBE : Hid (Below w.heap.size w w9) := below_on HB.out (by go_grown) hb
  clear hb
  go_wp2
  go_ret
  exact ⟨rfl, HBE.out⟩
end Go.Proofs.Ythmkcckoeodhnaa
