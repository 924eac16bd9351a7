/-
  slices.Equal at gates.
-/
import Derived.Test.YtamijjpnklbgnaaCPlain
import Derived.Test.YtamijjpnklbgnaaGateNeq
import Derived.Test.YtamijjpnklbgnaaEqInts
import Derived.Test.YtamijjpnklbgnaaProg
import Derived.Deep.QuietTactic
import Derived.BigQuiet
namespace Go.Proofs.Ytamijjpnklbgnaa
open Go.RowKit
set_option linter.unusedSimpArgs false
set_option linter.unusedVariables false

set_option maxHeartbeats 400000 in
theorem equal_gates (A A' : Option Addr) (n m c c' : Nat) (xs ys : List Gt) (w : World)
    (hx : Rd w w.heap.size 3 A n (gatesCells xs)) (hy : Rd w w.heap.size 3 A' m (gatesCells ys)) (hn : n ≤ maxLen) (hm : m ≤ maxLen) :
    Calls Try.prog 47 #[.slice A n c, .slice A' m c'] w fun e w' => e = .returned (.bool (decide (xs = ys))) ∧ Below w.heap.size w w' := by
  unfold maxLen at hn hm
  have HX : Hid (Rd w w.heap.size 3 A n (gatesCells xs)) := hx
  have HY : Hid (Rd w w.heap.size 3 A' m (gatesCells ys)) := hy
  have LX : Hid (xs.length = n) := by have := hx.1; rw [gatesCells_length] at this; show _ = _; omega
  have LY : Hid (ys.length = m) := by have := hy.1; rw [gatesCells_length] at this; show _ = _; omega
  clear hx hy
  by_cases hnm : n = m
  · subst hnm
    go_enter Try.func47, Try.ntmps47
    go_wp2
    go_loopg [5, 13] n (fun gg _ s13 wr => ∃ kk : Nat, kk ≤ n ∧ n - kk ≤ gg ∧ s13 = .int .i64 kk ∧ Aside (Below w.heap.size w wr) ∧ Aside (∀ j, j < kk → xs.getD j default = ys.getD j default))
    case atStart => exact ⟨0, Nat.zero_le _, by omega, rfl, Below.refl _ _, fun j hj => absurd hj (Nat.not_lt_zero _)⟩
    case round =>
      obtain ⟨kk, hkk, hg, rfl, BW, AA⟩ := hrel
      by_cases hlt : kk < n
      · have hltz : (kk : Int) < (n : Int) := by omega
        obtain ⟨ad, rfl, hb, h0, h1, h2⟩ := (HX.out.below BW.out (Nat.le_refl _)).gate hlt
        obtain ⟨ad', rfl, hb', g0, g1, g2⟩ := (HY.out.below BW.out (Nat.le_refl _)).gate hlt
        generalize hz1 : xs.getD kk default = x at h0 h1 h2
        generalize hz2 : ys.getD kk default = y at g0 g1 g2
        have HE : Aside (xs.getD kk default = x ∧ ys.getD kk default = y) := ⟨hz1, hz2⟩
        clear hz1 hz2
        have hq := gate_neq x y
        cases hxy : !gtEq x y
        all_goals rw [hxy] at hq
        · go_wp2_with fail
          go_quiet (fail)
          go_wp2
          go_roundg (n - (kk + 1))
          case measure => omega
          case rel =>
            refine ⟨kk + 1, by omega, by omega, by go_num, (show Below _ _ _ from below_drewN BW.out _), (show Aside _ from fun j hj => ?_)⟩
            by_cases e : j = kk
            · subst e
              rw [HE.out.1, HE.out.2]
              exact (gtEq_iff x y).1 (by simpa using hxy)
            · exact AA.out j (by omega)
        · go_wp2_with fail
          go_quiet (fail)
          go_wp2
          go_ret
          refine ⟨ret_bool ?_, below_drewN BW.out _⟩
          symm
          rw [decide_eq_false_iff_not]
          rintro rfl
          have := HE.out.1.symm.trans HE.out.2
          rw [(gtEq_iff x y).2 this] at hxy
          cases hxy
      · have hltz : ¬ (kk : Int) < (n : Int) := by omega
        obtain rfl : kk = n := by omega
        go_wp2
        go_ret
        refine ⟨ret_bool ?_, BW.out⟩
        symm
        rw [decide_eq_true_iff]
        exact list_eq_of_getD (LX.out.trans LY.out.symm) default (fun k hk => AA.out k (by rw [LX.out] at hk; exact hk))
  · have hnm' : ((n : Int) != (m : Int)) = true := by rw [bne_iff_ne]; omega
    go_enter Try.func47, Try.ntmps47
    go_wp2
    go_ret
    refine ⟨ret_bool ?_, Below.refl _ _⟩
    symm
    rw [decide_eq_false_iff_not]
    rintro rfl
    exact hnm (LX.out.symm.trans LY.out)
end Go.Proofs.Ytamijjpnklbgnaa
