/-
  circuit.Same and the reference's Same, walked.
-/
import Derived.Test.YtamijjpnklbgnaaEqGates
import Derived.Test.YtamijjpnklbgnaaCRefSame
import Derived.Deep.Light
namespace Go.Proofs.Ytamijjpnklbgnaa
open Go.RowKit
set_option linter.unusedSimpArgs false
set_option linter.unusedVariables false

set_option maxHeartbeats 400000 in
theorem same_any (i j : Int) (GA OA GB OB : Option Addr) (gn gc on oc hn hc pn pc : Nat) (gs hs : List Gt) (os ps : List Int) (w : World)
    (hG : Rd w w.heap.size 3 GA gn (gatesCells gs)) (hO : Rd w w.heap.size 1 OA on (ints os)) (hm1 : gn ≤ maxLen) (hm2 : on ≤ maxLen)
    (hH : Rd w w.heap.size 3 GB hn (gatesCells hs)) (hP : Rd w w.heap.size 1 OB pn (ints ps)) (hm3 : hn ≤ maxLen) (hm4 : pn ≤ maxLen) :
    Calls Try.prog 21 #[.agg #[.int .i64 i, .slice GA gn gc, .slice OA on oc], .agg #[.int .i64 j, .slice GB hn hc, .slice OB pn pc]] w fun e w' =>
      e = .returned (.bool (sameC ⟨i, gs, os⟩ ⟨j, hs, ps⟩)) ∧ Below w.heap.size w w' := by
  have HG : Hid (Rd w w.heap.size 3 GA gn (gatesCells gs)) := hG
  have HO : Hid (Rd w w.heap.size 1 OA on (ints os)) := hO
  have HH : Hid (Rd w w.heap.size 3 GB hn (gatesCells hs)) := hH
  have HP : Hid (Rd w w.heap.size 1 OB pn (ints ps)) := hP
  clear hG hO hH hP
  cases hij : (i == j)
  · have HK : Aside (sameC ⟨i, gs, os⟩ ⟨j, hs, ps⟩ = false) := by show _ = _; simp [sameC, hij]
    go_enter Try.func21, Try.ntmps21
    go_wp2
    go_ret
    rw [HK.out]
    exact ⟨rfl, by go_grown⟩
  · have HK : Aside (sameC ⟨i, gs, os⟩ ⟨j, hs, ps⟩ = (decide (gs = hs) && decide (os = ps))) := by show _ = _; simp [sameC, hij]
    go_enter Try.func21, Try.ntmps21
    go_wp2_with fail
    refine (equal_gates GA GB gn hn gc hc gs hs _ (HG.out.up (by go_grown)) (HH.out.up (by go_grown)) hm1 hm3).mono ?_
    rintro e w1 ⟨rfl, hb⟩
    have B1 : Below w.heap.size w w1 := (show Below w.heap.size w _ by go_grown).trans (hb.mono (by simp; omega))
    cases hgs : decide (gs = hs)
    · rw [hgs] at HK
      go_wp2
      go_ret
      rw [HK.out]
      exact ⟨rfl, B1⟩
    · rw [hgs] at HK
      have c2 : w1.cell? ⟨w.heap.size, 2, none⟩ = some (.slice OA on oc) := (hb.cell (p := ⟨w.heap.size, 2, none⟩) (by simp; omega)).trans (by go_cell)
      have c3 : w1.cell? ⟨w.heap.size + 1, 2, none⟩ = some (.slice OB pn pc) := (hb.cell (p := ⟨w.heap.size + 1, 2, none⟩) (by simp)).trans (by go_cell)
      go_wp2_with fail
      refine (equal_ints OA OB on pn oc pc os ps _ (HO.out.up B1) (HP.out.up B1) hm2 hm4).mono ?_
      rintro e w2 ⟨rfl, hb2⟩
      go_wp2
      go_ret
      rw [HK.out]
      exact ⟨rfl, B1.trans (hb2.mono B1.size)⟩

end Go.Proofs.Ytamijjpnklbgnaa
