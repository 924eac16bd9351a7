/-
  circuit.operands, circuit.Right and its closures, walked.
-/
import Derived.Test.YtamijjpnklbgnaaIndexFunc
import Derived.Test.YtamijjpnklbgnaaCPlain
namespace Go.Proofs.Ytamijjpnklbgnaa
open Go.RowKit
set_option linter.unusedSimpArgs false
set_option linter.unusedVariables false

set_option maxHeartbeats 400000 in
theorem operands_any (op : Int) (w : World) :
    Calls Try.prog 49 #[.int .i64 op] w fun e w' => e = .returned (.int .i64 (operandsF op)) ∧ w = w' := by
  go_enter Try.func49, Try.ntmps49
  go_wp2
  all_goals go_ret
  all_goals (refine ⟨?_, rfl⟩; simp_all [operandsF])

set_option maxHeartbeats 400000 in
theorem wire_any (x k n inputs i : Int) (pn pc pi : Nat) (w : World)
    (hn : w.cell? ⟨pn, 0, none⟩ = some (.int .i64 n)) (hc : w.cell? ⟨pc, 0, none⟩ = some (.int .i64 inputs)) (hi : w.cell? ⟨pi, 0, none⟩ = some (.int .i64 i))
    (h0 : 0 ≤ inputs) (h1 : inputs ≤ 1000) (h2 : 0 ≤ i) (h3 : i ≤ 20000) :
    Calls Try.prog 50 #[.int .i64 x, .int .i64 k, .pointer (some ⟨pn, 0, none⟩), .pointer (some ⟨pc, 0, none⟩), .pointer (some ⟨pi, 0, none⟩)] w fun e w' => e = .returned (.bool (wireOk n x k (inputs + i))) ∧ w = w' := by
  go_enter Try.func50, Try.ntmps50
  go_wp2
  all_goals go_ret
  all_goals refine ⟨ret_bool ?_, rfl⟩
  all_goals unfold wireOk
  all_goals (rw [Bool.eq_iff_iff]; simp; omega)

set_option maxHeartbeats 400000 in
theorem outs_any (x inputs : Int) (pc : Nat) (A : Option Addr) (n c : Nat) (w : World)
    (hc : w.cell? ⟨pc, 0, none⟩ = some (.int .i64 inputs)) (hg : w.cell? ⟨pc, 1, none⟩ = some (.slice A n c))
    (h0 : 0 ≤ inputs) (h1 : inputs ≤ 1000) (h3 : n ≤ 20000) :
    Calls Try.prog 52 #[.int .i64 x, .pointer (some ⟨pc, 0, none⟩)] w fun e w' => e = .returned (.bool (!outOk (inputs + n) x)) ∧ w = w' := by
  go_enter Try.func52, Try.ntmps52
  go_wp2
  all_goals go_ret
  all_goals refine ⟨ret_bool ?_, rfl⟩
  all_goals unfold outOk
  all_goals first | (rw [Bool.eq_iff_iff]; simp; omega) | (rw [Bool.eq_iff_iff]; simp; done)

set_option maxHeartbeats 400000 in
theorem right_any (inputs : Int) (GA OA : Option Addr) (gn gc on oc : Nat) (gs : List Gt) (os : List Int) (w : World)
    (hG : Rd w w.heap.size 3 GA gn (gatesCells gs)) (hO : Rd w w.heap.size 1 OA on (ints os)) (hm1 : gn ≤ maxLen) (hm2 : on ≤ maxLen) :
    Calls Try.prog 25 #[.agg #[.int .i64 inputs, .slice GA gn gc, .slice OA on oc]] w fun e w' => e = .returned (.bool (rightC ⟨inputs, gs, os⟩)) ∧ Below w.heap.size w w' := by
  unfold maxLen at hm1 hm2
  have HN : Hid (gs.length = gn) := by have := hG.1; simp [gatesCells_length] at this; show gs.length = gn; omega
  have HM : Hid (os.length = on) := by have := hO.1; simp at this; show os.length = on; omega
  have HG : Hid (Rd w w.heap.size 3 GA gn (gatesCells gs)) := hG
  have HO : Hid (Rd w w.heap.size 1 OA on (ints os)) := hO
  clear hG hO
  by_cases hok : 0 ≤ inputs ∧ inputs ≤ 1000 ∧ gn ≤ 20000 ∧ on ≤ 1000
  · obtain ⟨h0, h1, h2, h3⟩ := hok
    go_enter Try.func25, Try.ntmps25
    go_wp2
    go_loopg [30] gn (fun gg s30 wr => ∃ kk : Nat, kk ≤ gn ∧ gn - kk ≤ gg ∧ s30 = .int .i64 kk ∧ Aside (Below (w.heap.size + 1) (w.alloc (.cells #[.int .i64 inputs, .slice GA gn gc, .slice OA on oc] 25)) wr) ∧ Aside (∀ j, j < kk → gateOk (inputs + j) (gs.getD j default) = true))
    case atStart => exact ⟨0, Nat.zero_le _, by omega, rfl, Below.refl _ _, fun j hj => absurd hj (Nat.not_lt_zero _)⟩
    case round =>
      obtain ⟨kk, hkk, hg, rfl, BW, AA⟩ := hrel
      have hc0 : wr.cell? ⟨w.heap.size, 0, none⟩ = some (.int .i64 inputs) := (BW.out.cell (p := ⟨w.heap.size, 0, none⟩) (by simp)).trans (by simp)
      have hc1 : wr.cell? ⟨w.heap.size, 1, none⟩ = some (.slice GA gn gc) := (BW.out.cell (p := ⟨w.heap.size, 1, none⟩) (by simp)).trans (by simp)
      have hc2 : wr.cell? ⟨w.heap.size, 2, none⟩ = some (.slice OA on oc) := (BW.out.cell (p := ⟨w.heap.size, 2, none⟩) (by simp)).trans (by simp)
      have hsz : w.heap.size < wr.heap.size := by have := BW.out.size; simp at this; omega
      by_cases hlt : kk < gn
      · have hltz : (kk : Int) < (gn : Int) := by omega
        obtain ⟨ad, rfl, hb, hg0, hg1, hg2⟩ := ((HG.out.alloc (Nat.le_refl _) _).below BW.out (by omega)).gate hlt
        generalize hy : gs.getD kk default = g at hg0 hg1 hg2
        have HY : Aside (gs.getD kk default = g) := hy
        clear hy
        go_wp2_with fail
        refine (operands_any _ _).mono ?_
        rintro e w' ⟨rfl, rfl⟩
        have b0 := operandsF_bd g.op
        go_wp2_with fail
        · refine (wire_any g.a 1 (operandsF g.op) inputs kk _ _ _ _ (by go_cell) (by simp (disch := (simp; omega)) only [World.cell?_alloc_lt]; exact hc0) (by go_cell) h0 h1 (by omega) (by omega)).mono ?_
          rintro e w' ⟨rfl, rfl⟩
          go_wp2_with fail
          · refine (wire_any g.b 2 (operandsF g.op) inputs kk _ _ _ _ (by go_cell) (by simp (disch := (simp; omega)) only [World.cell?_alloc_lt]; exact hc0) (by go_cell) h0 h1 (by omega) (by omega)).mono ?_
            rintro e w' ⟨rfl, rfl⟩
            have BB := BW.out
            have B0 := below_box (k := 1) BW.out
            have hA : wireOk (operandsF g.op) g.a 1 (inputs + kk) = true := by assumption
            have hgo : gateOk (inputs + kk) g = wireOk (operandsF g.op) g.b 2 (inputs + kk) := by unfold gateOk; rw [hA, decide_eq_true (by assumption)]; simp
            have HGO : Aside (gateOk (inputs + kk) g = wireOk (operandsF g.op) g.b 2 (inputs + kk)) := hgo
            clear hgo
            cases hB : wireOk (operandsF g.op) g.b 2 (inputs + kk)
            · have h0' : ¬ operandsF g.op < 0 := by omega
              go_wp2
              go_ret
              refine ⟨ret_bool ?_, ?_⟩
              · exact (right_false_gate ⟨inputs, gs, os⟩ kk (by rw [HN.out]; exact hlt) (by rw [HY.out, HGO.out, hB])).symm
              · go_grown
            · have h0' : ¬ operandsF g.op < 0 := by omega
              go_wp2
              go_roundg (gn - (kk + 1))
              case measure => omega
              case rel =>
                refine ⟨kk + 1, by omega, by omega, by go_num, ?_, (show Aside _ from fun j hj => ?_)⟩
                · show Below _ _ _
                  go_grown
                · by_cases e : j = kk
                  · subst e
                    rw [HY.out, HGO.out, hB]
                  · exact AA.out j (by omega)
          · have BB := BW.out
            have B0 := below_box (k := 1) BW.out
            have hA : ¬ wireOk (operandsF g.op) g.a 1 (inputs + kk) = true := by assumption
            go_ret
            refine ⟨ret_bool ?_, ?_⟩
            · exact (right_false_gate ⟨inputs, gs, os⟩ kk (by rw [HN.out]; exact hlt) (by rw [HY.out]; unfold gateOk; simp [hA])).symm
            · go_grown
        · have BB := BW.out
          have B0 := below_box (k := 1) BW.out
          go_ret
          refine ⟨ret_bool ?_, ?_⟩
          · exact (right_false_gate ⟨inputs, gs, os⟩ kk (by rw [HN.out]; exact hlt) (by rw [HY.out]; unfold gateOk; rw [decide_eq_false (by omega)]; rfl)).symm
          · go_grown
      · have hltz : ¬ (kk : Int) < (gn : Int) := by omega
        obtain rfl : kk = gn := by omega
        have BB := BW.out
        have B0 := below_box (k := 1) BW.out
        go_wp2_with fail
        refine (containsFunc_ints OA on oc os _ _ (fun x => !outOk (inputs + kk) x) _ (enters Try.func52 (by kernel_rfl) rfl) (((HO.out.alloc (Nat.le_refl _) _).below BW.out (by omega)).more (by omega)) hm2 ?_).mono ?_
        · intro W x hx hb
          refine (outs_any x inputs w.heap.size GA kk gc W ((hb.cell (by show w.heap.size < _; omega)).trans hc0) ((hb.cell (by show w.heap.size < _; omega)).trans hc1) h0 h1 h2).mono ?_
          rintro e w' ⟨rfl, rfl⟩
          exact ⟨rfl, hb⟩
        · rintro e w' ⟨rfl, hb'⟩
          go_wp2
          go_ret
          refine ⟨ret_bool ?_, B0.trans (hb'.mono (by omega))⟩
          rw [right_true_gates ⟨inputs, gs, os⟩ ⟨h0, h1, by rw [HN.out]; exact h2, by rw [HM.out]; exact h3⟩ (fun j hj => AA.out j (by rw [HN.out] at hj; exact hj)), HN.out]
          simp [List.all_eq_not_any_not]
  · have h' : ¬ (((0 ≤ inputs ∧ inputs ≤ 1000) ∧ (gn : Int) ≤ 20000) ∧ (on : Int) ≤ 1000) := by omega
    have HK : Aside (rightC ⟨inputs, gs, os⟩ = false) := by
      show _ = _
      unfold rightC
      rw [decide_eq_false (by simp only [HN.out, HM.out]; exact hok)]
      rfl
    clear hok
    go_enter Try.func25, Try.ntmps25
    go_wp2
    all_goals go_ret
    all_goals (rw [HK.out]; exact ⟨rfl, by go_grown⟩)
end Go.Proofs.Ytamijjpnklbgnaa
