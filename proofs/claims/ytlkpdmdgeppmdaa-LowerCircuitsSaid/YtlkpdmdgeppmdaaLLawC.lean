/-
  The law LowerCircuits: what it does.
-/
import Derived.Test.YtlkpdmdgeppmdaaLAwake
import Derived.Test.YtlkpdmdgeppmdaaLRLower
namespace Go.Proofs.Ytlkpdmdgeppmdaa
open Go.RowKit
set_option linter.unusedSimpArgs false
set_option linter.unusedVariables false
theorem sameC_self (c : Circ) : sameC c c = true := by simp [sameC]
set_option maxRecDepth 100000 in
set_option maxHeartbeats 4000000 in
theorem lawLowCirc_any (t : Tre) (HA NA : Option Addr) (hn hc nn nc : Nat) (sl : List Sl) (w : World) (h : TAt w t HA NA hn nn sl) :
    Calls Try.prog 4 #[.agg #[.int .i64 t.states, .slice HA hn hc, .slice NA nn nc]] w fun e w' => e = .returned (.bool true) ∧ Below w.heap.size w w' := by
  have A0 : Hid (TAt w t HA NA hn nn sl) := h
  have HLN : Hid (t.nodes.length = nn) := h.nl
  clear h
  go_enter Try.func4, Try.ntmps4
  go_wp2_with fail
  refine (fewL_any t HA NA hn hc nn nc sl _ (A0.out.up (by go_grown))).mono ?_
  rintro e w1 ⟨rfl, hb⟩
  have RT : Hid (Row w1 w.heap.size 25 [.int .i64 t.states, .slice HA hn hc, .slice NA nn nc]) := rowCells (Row.new w 25 [.int .i64 t.states, .slice HA hn hc, .slice NA nn nc]) hb
  have HB : Hid (Below w.heap.size w w1) := below_next hb (by go_grown)
  have A := (show Hid (TAt w1 _ _ _ _ _ _) from A0.out.up HB.out)
  clear hb A0
  cases hf : fewL t
  · clear RT
    go_wp2_with fail
    refine (awake_any _).mono ?_
    rintro e w9 ⟨rfl, hb⟩
    have HBE : Hid (Below w.heap.size w w9) := below_on HB.out (by go_grown) hb
    clear hb
    go_wp2
    go_ret
    exact ⟨rfl, HBE.out⟩
  have HN60 : Hid (nn ≤ 60) := by
    have h1 := hf
    simp only [fewL, Bool.and_eq_true, decide_eq_true_eq] at h1
    show _ ≤ _
    rw [← HLN.out]; exact h1.2
  clear hf
  have k0 := RT.out.cell 0
  have k1 := RT.out.cell 1
  have k2 := RT.out.cell 2
  have kl := RT.out.lt
  simp only [List.getElem?_cons_zero, List.getElem?_cons_succ] at k0 k1 k2
  go_wp2_with fail
  refine (lower_any t HA NA hn hc nn nc sl _ A.out (by have := HN60.out; omega)).mono ?_
  rintro e w2 ⟨GA, OA, gn, gc, on, oc, rfl, hc3, hb⟩
  have HC : Hid (CAt w2 (lowR t) GA OA gn on) := hc3
  clear k0 k1 k2 kl hc3
  have hn : Below w1.heap.size w1 w2 := below_next hb (by go_grown)
  have RT := (show Hid (Row _ _ _ _) from rowCells RT.out hn)
  have A := (show Hid (TAt w2 _ _ _ _ _ _) from A.out.up hn)
  have HB := (show Hid (Below w.heap.size w w2) from below_on2 HB.out hn)
  clear hb hn
  have k0 := RT.out.cell 0
  have k1 := RT.out.cell 1
  have k2 := RT.out.cell 2
  have kl := RT.out.lt
  simp only [List.getElem?_cons_zero, List.getElem?_cons_succ] at k0 k1 k2
  go_wp2_with fail
  refine (rLower_any t HA NA hn hc nn nc sl _ (A.out.up (by go_grown)) (by have := HN60.out; omega)).mono ?_
  rintro e w3 ⟨GB, OB, hm, hd, om, od, rfl, hc3, hb⟩
  have HD : Hid (CAt w3 (lowR t) GB OB hm om) := hc3
  clear k0 k1 k2 kl hc3
  have RC : Hid (Row w3 (w2.heap.size) 39 [.int .i64 (lowR t).inputs, .slice GA gn gc, .slice OA on oc]) := by
    have h0 := Row.new w2 39 [.int .i64 (lowR t).inputs, .slice GA gn gc, .slice OA on oc]
    try simp only [World.size_alloc] at h0
    exact rowCells h0 hb
  have hn : Below w2.heap.size w2 w3 := below_next hb (by go_grown)
  have RT := (show Hid (Row _ _ _ _) from rowCells RT.out hn)
  have HC := (show Hid (CAt w3 _ _ _ _ _) from HC.out.up hn)
  have HB := (show Hid (Below w.heap.size w w3) from below_on2 HB.out hn)
  clear hb hn
  generalize lowErr t = er
  have hee : (er == er) = true := by simp
  have c0 := RC.out.cell 0
  have c1 := RC.out.cell 1
  have c2 := RC.out.cell 2
  have cl := RC.out.lt
  simp only [List.getElem?_cons_zero, List.getElem?_cons_succ] at c0 c1 c2
  go_wp2_with fail
  refine (rSame_any (lowR t).inputs (lowR t).inputs GA OA GB OB gn gc on oc hm hd om od (lowR t).gates (lowR t).gates (lowR t).outs (lowR t).outs _ (HC.out.up (by go_grown)).gates (HC.out.up (by go_grown)).outs HC.out.g63 HC.out.o63 (HD.out.up (by go_grown)).gates (HD.out.up (by go_grown)).outs HD.out.g63 HD.out.o63).mono ?_
  rw [sameC_self]
  rintro e w4 ⟨rfl, hb⟩
  have HB := (show Hid (Below w.heap.size w w4) from below_on HB.out (by go_grown) hb)
  clear hb c0 c1 c2 cl
  go_wp2_with fail
  refine (awake_any _).mono ?_
  rintro e w5 ⟨rfl, hb⟩
  have HB := (show Hid (Below w.heap.size w w5) from below_on2 HB.out hb)
  clear hb
  go_wp2
  go_ret
  exact ⟨rfl, HB.out⟩
end Go.Proofs.Ytlkpdmdgeppmdaa
