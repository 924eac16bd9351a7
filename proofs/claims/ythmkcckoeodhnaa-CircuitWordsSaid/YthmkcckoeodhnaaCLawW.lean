/-
  The law CircuitWords: what it does.
-/
import Derived.Test.YthmkcckoeodhnaaCAlive
import Derived.Test.YthmkcckoeodhnaaCJLaw
import Derived.Test.YthmkcckoeodhnaaCWords
import Derived.Test.YthmkcckoeodhnaaCRefWords
namespace Go.Proofs.Ythmkcckoeodhnaa
open Go.RowKit
set_option linter.unusedSimpArgs false
set_option linter.unusedVariables false

set_option maxRecDepth 100000 in
set_option maxHeartbeats 2000000 in
theorem lawWords_any (c : Circ) (GA OA IA : Option Addr) (gn gc on oc n ic : Nat) (ins : List (BitVec 64)) (w : World) (h : CAt w c GA OA gn on) (hI : Rd w w.heap.size 1 IA n (w64s ins)) (hnm : n ≤ maxLen) :
    Calls Try.prog 5 #[.agg #[.int .i64 c.inputs, .slice GA gn gc, .slice OA on oc], .slice IA n ic] w fun e w' => e = .returned (.bool true) ∧ Below w.heap.size w w' := by
  have H : Hid (CAt w c GA OA gn on) := h
  have HI : Hid (Rd w w.heap.size 1 IA n (w64s ins)) := hI
  have hom := h.o63
  have hgm := h.g63
  unfold maxLen at hnm hom hgm
  clear h hI
  go_enter Try.func5, Try.ntmps5
  go_wp2_with (go_at_call 10
               refine (alive_any _).mono ?_
               rintro e w2 ⟨rfl, hb⟩
               have HB2 : Hid (Below w.heap.size w w2) := below_next hb (by go_grown)
               clear hb)
  all_goals first | (go_ret; exact ⟨rfl, HB2.out⟩) | skip
  cases hk : okC c n
  · refine (words_bad c GA OA IA gn gc on oc n ic _ (H.out.up (by go_grown)) (by unfold maxLen; omega) hk).mono ?_
    rintro e w1 ⟨rfl, hb⟩
    have HB : Hid (Below w.heap.size w w1) := below_next hb (by go_grown)
    have RC : Hid (Row w1 w.heap.size 25 [.int .i64 c.inputs, .slice GA gn gc, .slice OA on oc]) := rowCells (Row.new w 25 [.int .i64 c.inputs, .slice GA gn gc, .slice OA on oc]) hb
    clear hb
    have c0 := RC.out.cell 0
    have c1 := RC.out.cell 1
    have c2 := RC.out.cell 2
    simp only [List.getElem?_cons_zero, List.getElem?_cons_succ] at c0 c1 c2
    go_wp2_with fail
    refine (rWords_bad c GA OA IA gn gc on oc n ic _ (H.out.up HB.out) (by unfold maxLen; omega) hk).mono ?_
    rintro e w2 ⟨rfl, hb⟩
    have HB := (show Hid (Below w.heap.size w w2) from below_on2 HB.out hb)
    clear hb c0 c1 c2 RC
    go_wp2_with fail
    go_loopg [55] 0 (fun gg s55 wr => s55 = .int .i64 0 ∧ Aside (Below w.heap.size w wr))
    case atStart => exact ⟨rfl, HB.out⟩
    case round =>
      obtain ⟨rfl, HB'⟩ := hrel
      have HB : Hid (Below w.heap.size w wr) := HB'.out
      clear HB'
      go_wp2_with fail
      refine (alive_any _).mono ?_
      rintro e w9 ⟨rfl, hb⟩
      have HBE : Hid (Below w.heap.size w w9) := below_on HB.out (by go_grown) hb
      clear hb
      go_wp2
      go_ret
      exact ⟨rfl, HBE.out⟩
  · refine (words_ok c GA OA IA gn gc on oc n ic ins _ (H.out.up (by go_grown)) (HI.out.up (by go_grown)) hk).mono ?_
    rintro e w1 ⟨g, rfl, hrow, _, hb⟩
    have HB : Hid (Below w.heap.size w w1) := below_next hb (by go_grown)
    have RC : Hid (Row w1 w.heap.size 25 [.int .i64 c.inputs, .slice GA gn gc, .slice OA on oc]) := rowCells (Row.new w 25 [.int .i64 c.inputs, .slice GA gn gc, .slice OA on oc]) hb
    have RV : Hid (Row w1 g 38 (w64s (outsG evalW 0 c ins))) := hrow
    have LO : Hid ((outsG evalW 0 c ins).length = on) := by have := H.out.ol; show _ = _; simp [outsG, this]
    clear hb hrow
    have c0 := RC.out.cell 0
    have c1 := RC.out.cell 1
    have c2 := RC.out.cell 2
    simp only [List.getElem?_cons_zero, List.getElem?_cons_succ] at c0 c1 c2
    go_wp2_with fail
    refine (rWords_ok c GA OA IA gn gc on oc n ic ins _ (H.out.up HB.out) (HI.out.up HB.out) hk).mono ?_
    rintro e w2 ⟨g2, rfl, hrow, _, hb⟩
    have HB := (show Hid (Below w.heap.size w w2) from below_on2 HB.out hb)
    have RV := (show Hid (Row w2 _ _ _) from rowCells RV.out hb)
    have RW : Hid (Row w2 g2 38 (w64s (outsG evalW 0 c ins))) := hrow
    clear hb hrow c0 c1 c2 RC
    go_wp2_with fail
    go_loopg [55] on (fun gg s55 wr => ∃ kk : Nat, kk ≤ on ∧ on - kk ≤ gg ∧ s55 = .int .i64 kk ∧ Aside (Below w2.heap.size w2 wr))
    case atStart => exact ⟨0, Nat.zero_le _, by omega, rfl, Below.refl _ _⟩
    case round =>
      obtain ⟨kk, hkk, hg, rfl, BW⟩ := hrel
      by_cases hlt : kk < on
      · have hltz : (kk : Int) < (on : Int) := by omega
        have hcell := ((RV.out.below BW.out RV.out.lt).cell kk).trans (w64s_get _ kk (by rw [LO.out]; exact hlt))
        have hcell' := ((RW.out.below BW.out RW.out.lt).cell kk).trans (w64s_get _ kk (by rw [LO.out]; exact hlt))
        generalize (outsG evalW 0 c ins).getD kk 0 = x at hcell hcell'
        unfold w64 at hcell hcell'
        have hxx : ((x.toNat : Int) != (x.toNat : Int)) = false := by simp
        go_wp2_with fail
        go_quiet (fail)
        go_wp2
        go_roundg (on - (kk + 1))
        case measure => omega
        case rel =>
          exact ⟨kk + 1, by omega, by omega, by go_num, (show Below _ _ _ from below_drewN BW.out _)⟩
      · have hltz : ¬ (kk : Int) < (on : Int) := by omega
        have HB : Hid (Below w.heap.size w wr) := below_on2 HB.out BW.out
        clear BW RV RW
        go_wp2_with fail
        refine (alive_any _).mono ?_
        rintro e w9 ⟨rfl, hb⟩
        have HBE : Hid (Below w.heap.size w w9) := below_on HB.out (by go_grown) hb
        clear hb
        go_wp2
        go_ret
        exact ⟨rfl, HBE.out⟩
end Go.Proofs.Ythmkcckoeodhnaa
