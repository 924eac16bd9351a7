/-
  slices.Equal at integers.
-/
import Derived.Test.YtamijjpnklbgnaaListEq
import Derived.Test.YtamijjpnklbgnaaProg
import Derived.Deep.QuietTactic
import Derived.BigQuiet
namespace Go.Proofs.Ytamijjpnklbgnaa
open Go.RowKit
set_option linter.unusedSimpArgs false
set_option linter.unusedVariables false

set_option maxHeartbeats 400000 in
theorem equal_ints (A A' : Option Addr) (n m c c' : Nat) (xs ys : List Int) (w : World)
    (hx : Rd w w.heap.size 1 A n (ints xs)) (hy : Rd w w.heap.size 1 A' m (ints ys)) (hn : n ≤ maxLen) (hm : m ≤ maxLen) :
    Calls Try.prog 48 #[.slice A n c, .slice A' m c'] w fun e w' => e = .returned (.bool (decide (xs = ys))) ∧ Below w.heap.size w w' := by
  unfold maxLen at hn hm
  have HX : Hid (Rd w w.heap.size 1 A n (ints xs)) := hx
  have HY : Hid (Rd w w.heap.size 1 A' m (ints ys)) := hy
  have LX : Hid (xs.length = n) := by have := hx.1; simp at this; show _ = _; omega
  have LY : Hid (ys.length = m) := by have := hy.1; simp at this; show _ = _; omega
  clear hx hy
  by_cases hnm : n = m
  · subst hnm
    go_enter Try.func48, Try.ntmps48
    go_wp2
    go_loopg [5, 13] n (fun gg _ s13 wr => ∃ kk : Nat, kk ≤ n ∧ n - kk ≤ gg ∧ s13 = .int .i64 kk ∧ Aside (Below w.heap.size w wr) ∧ Aside (∀ j, j < kk → xs.getD j 0 = ys.getD j 0))
    case atStart => exact ⟨0, Nat.zero_le _, by omega, rfl, Below.refl _ _, fun j hj => absurd hj (Nat.not_lt_zero _)⟩
    case round =>
      obtain ⟨kk, hkk, hg, rfl, BW, AA⟩ := hrel
      by_cases hlt : kk < n
      · have hltz : (kk : Int) < (n : Int) := by omega
        obtain ⟨ad, rfl, hb, hcell⟩ := (HX.out.below BW.out (Nat.le_refl _)).int hlt
        obtain ⟨ad', rfl, hb', hcell'⟩ := (HY.out.below BW.out (Nat.le_refl _)).int hlt
        generalize h1 : xs.getD kk 0 = x at hcell
        generalize h2 : ys.getD kk 0 = y at hcell'
        have HE : Aside (xs.getD kk 0 = x ∧ ys.getD kk 0 = y) := ⟨h1, h2⟩
        clear h1 h2
        cases hxy : (x != y)
        · go_wp2_with fail
          go_quiet (fail)
          go_wp2
          go_roundg (n - (kk + 1))
          case measure => omega
          case rel =>
            refine ⟨kk + 1, by omega, by omega, by go_num, (show Below _ _ _ from below_drewN BW.out _), (show Aside _ from fun j hj => ?_)⟩
            by_cases e : j = kk
            · subst e
              rw [HE.out.1, HE.out.2]
              simpa using hxy
            · exact AA.out j (by omega)
        · go_wp2_with fail
          go_quiet (fail)
          go_wp2
          go_ret
          refine ⟨ret_bool ?_, below_drewN BW.out _⟩
          symm
          rw [decide_eq_false_iff_not]
          rintro rfl
          have := HE.out.1.symm.trans HE.out.2
          simp [this] at hxy
      · have hltz : ¬ (kk : Int) < (n : Int) := by omega
        obtain rfl : kk = n := by omega
        go_wp2
        go_ret
        refine ⟨ret_bool ?_, BW.out⟩
        symm
        rw [decide_eq_true_iff]
        exact list_eq_of_getD (LX.out.trans LY.out.symm) 0 (fun k hk => AA.out k (by rw [LX.out] at hk; exact hk))
  · have hnm' : ((n : Int) != (m : Int)) = true := by rw [bne_iff_ne]; omega
    go_enter Try.func48, Try.ntmps48
    go_wp2
    go_ret
    refine ⟨ret_bool ?_, Below.refl _ _⟩
    symm
    rw [decide_eq_false_iff_not]
    rintro rfl
    exact hnm (LX.out.symm.trans LY.out)
end Go.Proofs.Ytamijjpnklbgnaa
