/-
  The law LowerSame: what it does.
-/
import Derived.Test.YtlkpdmdgeppmdaaLAwake
import Derived.Test.YtlkpdmdgeppmdaaCRefEval
namespace Go.Proofs.Ytlkpdmdgeppmdaa
open Go.RowKit
set_option linter.unusedSimpArgs false
set_option linter.unusedVariables false

theorem lowR_len {t : Tre} (hr : rightT t = true) : (lowR t).outs.length = bitsF t.states ∧ (lowR t).inputs = lowN t := by
  have h1 := (rightT_parts hr).2.1.2.1
  rw [lowR, if_pos hr]
  exact ⟨lowM_row _ _ (by omega), rfl⟩
set_option maxRecDepth 100000 in
set_option maxHeartbeats 4000000 in
theorem lawLowSame_any (t : Tre) (HA NA IA : Option Addr) (hn hc nn nc n ic : Nat) (sl : List Sl) (ins : List Int) (w : World) (h : TAt w t HA NA hn nn sl) (hI : Rd w w.heap.size 1 IA n (ints ins)) (hm : n ≤ maxLen) :
    Calls Try.prog 5 #[.agg #[.int .i64 t.states, .slice HA hn hc, .slice NA nn nc], .slice IA n ic] w fun e w' => e = .returned (.bool true) ∧ Below w.heap.size w w' := by
  have A0 : Hid (TAt w t HA NA hn nn sl) := h
  have HI : Hid (Rd w w.heap.size 1 IA n (ints ins)) := hI
  have HLN : Hid (t.nodes.length = nn) := h.nl
  have HIL : Hid (ins.length = n) := by have := hI.1; rw [ints_length, Nat.mul_one] at this; exact this
  have HM : Hid (n ≤ maxLen) := hm
  unfold maxLen at hm
  clear h hI
  go_enter Try.func5, Try.ntmps5
  go_wp2_with fail
  refine (fewL_any t HA NA hn hc nn nc sl _ (A0.out.up (by go_grown))).mono ?_
  rintro e w1 ⟨rfl, hb⟩
  have RT : Hid (Row w1 w.heap.size 25 [.int .i64 t.states, .slice HA hn hc, .slice NA nn nc]) := rowCells (Row.new w 25 [.int .i64 t.states, .slice HA hn hc, .slice NA nn nc]) hb
  have HB : Hid (Below w.heap.size w w1) := below_next hb (by go_grown)
  have A := (show Hid (TAt w1 _ _ _ _ _ _) from A0.out.up HB.out)
  have HI := (show Hid (Rd w1 _ _ _ _ _) from HI.out.up HB.out)
  clear hb A0
  cases hf : fewL t
  · clear RT
    go_wp2_with fail
    refine (awake_any _).mono ?_
    rintro e w9 ⟨rfl, hb⟩
    have HBE : Hid (Below w.heap.size w w9) := below_on HB.out (by go_grown) hb
    clear hb
    go_wp2
    go_ret
    exact ⟨rfl, HBE.out⟩
  have HN60 : Hid (nn ≤ 60) := by
    have h1 := hf
    simp only [fewL, Bool.and_eq_true, decide_eq_true_eq] at h1
    show _ ≤ _
    rw [← HLN.out]; exact h1.2
  clear hf
  by_cases hn40 : 40 < n
  · clear RT
    go_wp2_with fail
    refine (awake_any _).mono ?_
    rintro e w9 ⟨rfl, hb⟩
    have HBE : Hid (Below w.heap.size w w9) := below_on HB.out (by go_grown) hb
    clear hb
    go_wp2
    go_ret
    exact ⟨rfl, HBE.out⟩
  have k0 := RT.out.cell 0
  have k1 := RT.out.cell 1
  have k2 := RT.out.cell 2
  have kl := RT.out.lt
  simp only [List.getElem?_cons_zero, List.getElem?_cons_succ] at k0 k1 k2
  go_wp2_with fail
  refine (rTEval_any t HA NA IA hn hc nn nc n ic sl ins _ A.out HI.out HM.out).mono ?_
  rintro e w2 ⟨rfl, hb⟩
  clear k0 k1 k2 kl
  have hn : Below w1.heap.size w1 w2 := below_next hb (by go_grown)
  have RT := (show Hid (Row _ _ _ _) from rowCells RT.out hn)
  have A := (show Hid (TAt w2 _ _ _ _ _ _) from A.out.up hn)
  have HI := (show Hid (Rd w2 _ _ _ _ _) from HI.out.up hn)
  have HB := (show Hid (Below w.heap.size w w2) from below_on2 HB.out hn)
  clear hb hn
  cases hne : (evalErr t ins != 0)
  case true =>
    clear RT
    go_wp2_with fail
    refine (awake_any _).mono ?_
    rintro e w9 ⟨rfl, hb⟩
    have HBE : Hid (Below w.heap.size w w9) := below_on HB.out (by go_grown) hb
    clear hb
    go_wp2
    go_ret
    exact ⟨rfl, HBE.out⟩
  have HE : Hid (evalErr t ins = 0) := by show _ = _; simpa using hne
  obtain ⟨hr, hl, hs⟩ := evalErr_parts HE.out
  have HR : Hid (rightT t = true) := hr
  have HLE : Hid (lowErr t = 0) := by show _ = _; rw [lowErr, if_pos hr]
  have HNZ : Hid (evalErr t ins != 0) = Hid (evalErr t ins != 0) := rfl
  clear hr hl hs HNZ
  have k0 := RT.out.cell 0
  have k1 := RT.out.cell 1
  have k2 := RT.out.cell 2
  have kl := RT.out.lt
  simp only [List.getElem?_cons_zero, List.getElem?_cons_succ] at k0 k1 k2
  go_wp2_with fail
  refine (lower_any t HA NA hn hc nn nc sl _ A.out (by have := HN60.out; omega)).mono ?_
  rw [HLE.out]
  rintro e w3 ⟨GA, OA, gn, gc, on, oc, rfl, hc3, hb⟩
  have HC : Hid (CAt w3 (lowR t) GA OA gn on) := hc3
  clear k0 k1 k2 kl hc3
  have hn : Below w2.heap.size w2 w3 := below_next hb (by go_grown)
  have RT := (show Hid (Row _ _ _ _) from rowCells RT.out hn)
  have A := (show Hid (TAt w3 _ _ _ _ _ _) from A.out.up hn)
  have HI := (show Hid (Rd w3 _ _ _ _ _) from HI.out.up hn)
  have HB := (show Hid (Below w.heap.size w w3) from below_on2 HB.out hn)
  clear hb hn
  have k0 := RT.out.cell 0
  have k1 := RT.out.cell 1
  have k2 := RT.out.cell 2
  have kl := RT.out.lt
  simp only [List.getElem?_cons_zero, List.getElem?_cons_succ] at k0 k1 k2
  go_wp2_with fail
  refine (lInputs_any t HA NA IA hn hc nn nc n ic sl ins _ (A.out.up (by go_grown)) (HI.out.up (by go_grown)) HM.out).mono ?_
  rintro e w4 ⟨LA, ln, lc, rfl, hl4, hm4, hb⟩
  have HLI : Hid (Rd w4 w4.heap.size 1 LA ln (bools (inputsR t ins))) := hl4
  have HLL : Hid ((ln : Int) = (lowR t).inputs) := by
    have h1 := hl4.1
    rw [bools_length, Nat.mul_one, inputsR, if_pos HE.out, inputs_len HE.out] at h1
    show _ = _
    rw [(lowR_len HR.out).2, ← h1]
  clear k0 k1 k2 kl hl4
  have RC : Hid (Row w4 (w3.heap.size) 39 [.int .i64 (lowR t).inputs, .slice GA gn gc, .slice OA on oc]) := by
    have h0 := Row.new w3 39 [.int .i64 (lowR t).inputs, .slice GA gn gc, .slice OA on oc]
    try simp only [World.size_alloc] at h0
    exact rowCells h0 hb
  have hn : Below w3.heap.size w3 w4 := below_next hb (by go_grown)
  have RT := (show Hid (Row _ _ _ _) from rowCells RT.out hn)
  have HC := (show Hid (CAt w4 _ _ _ _ _) from HC.out.up hn)
  have HB := (show Hid (Below w.heap.size w w4) from below_on2 HB.out hn)
  clear hb hn
  have k0 := RT.out.cell 0
  have k1 := RT.out.cell 1
  have k2 := RT.out.cell 2
  have kl := RT.out.lt
  simp only [List.getElem?_cons_zero, List.getElem?_cons_succ] at k0 k1 k2
  have c0 := RC.out.cell 0
  have c1 := RC.out.cell 1
  have c2 := RC.out.cell 2
  have cl := RC.out.lt
  simp only [List.getElem?_cons_zero, List.getElem?_cons_succ] at c0 c1 c2
  go_wp2_with fail
  refine (rEval_ok (lowR t) GA OA LA gn gc on oc ln lc (inputsR t ins) _ (HC.out.up (by go_grown)) (HLI.out.up (by go_grown)) (by
    have h1 := lowR_right HR.out (by have := HN60.out; rw [HLN.out]; omega)
    rw [okC, h1, Bool.true_and]
    exact decide_eq_true HLL.out)).mono ?_
  rintro e w5 ⟨v, rfl, hown, hb⟩
  obtain ⟨VA, vc, rfl, hrd⟩ := Rd.own hown
  have HV : Hid (Rd w5 w5.heap.size 1 VA on (bools (outsG evalB false (lowR t) (inputsR t ins)))) := hrd
  have HON : Hid (on = bitsF t.states) := by
    show _ = _
    rw [← HC.out.ol, (lowR_len HR.out).1]
  have HST : Hid (stateF (outsG evalB false (lowR t) (inputsR t ins)) = evalV t ins) := by
    show _ = _
    rw [inputsR, if_pos HE.out, (low_same HE.out).2, evalV, if_pos HE.out]
  clear k0 k1 k2 kl c0 c1 c2 cl hown hrd
  have hn : Below w4.heap.size w4 w5 := below_next hb (by go_grown)
  have RT := (show Hid (Row _ _ _ _) from rowCells RT.out hn)
  have HB := (show Hid (Below w.heap.size w w5) from below_on2 HB.out hn)
  clear hb hn
  have k0 := RT.out.cell 0
  have k1 := RT.out.cell 1
  have k2 := RT.out.cell 2
  have kl := RT.out.lt
  simp only [List.getElem?_cons_zero, List.getElem?_cons_succ] at k0 k1 k2
  have hbn : ((on : Int) == ((bitsF t.states : Nat) : Int)) = true := by rw [HON.out]; simp
  have hon3 : Hid (on ≤ maxLen) := by show _ ≤ _; rw [HON.out]; have := bitsF_bd t.states; unfold maxLen; omega
  go_wp2_with (first
    | (go_at_call 14; refine (lBits_any _ _).mono ?_; rintro e w10 ⟨rfl, rfl⟩)
    | (go_at_call 12; refine (lState_any VA on vc _ _ HV.out hon3.out).mono ?_; rw [HST.out]; rintro e w10 ⟨rfl, rfl⟩)
    | (go_at_call 8; refine (awake_any _).mono ?_; rintro e w10 ⟨rfl, hb⟩; have HB := (show Hid (Below w.heap.size w w10) from below_on HB.out (by go_grown) hb); clear hb))
  all_goals
    go_ret
    exact ⟨rfl, HB.out⟩
end Go.Proofs.Ytlkpdmdgeppmdaa
