/-
  few of the laws' package, walked.
-/
import Derived.Test.YtfknooffjhncgaaPSame
import Derived.Test.YtfknooffjhncgaaPRight
namespace Go.Proofs.Ytfknooffjhncgaa
open Go.RowKit
set_option linter.unusedSimpArgs false
set_option linter.unusedVariables false
def fewF (p : Pln) : Bool := decide (p.words.length ≤ 5) && p.words.all (fun l => decide (l.length ≤ 5000))

set_option maxRecDepth 100000 in
set_option maxHeartbeats 2000000 in
theorem few_any (p : Pln) (A : Option Addr) (n c : Nat) (sl : List Sl) (w : World) (h : PAt w p A n sl) :
    Calls Try.prog 13 #[.agg #[.int .i64 p.w, .int .i64 p.h, .int .i64 p.edge, .slice A n c]] w fun e w' => e = .returned (.bool (fewF p)) ∧ Below w.heap.size w w' := by
  have H : Hid (PAt w p A n sl) := h
  have HWL : Hid (p.words.length = n) := h.wl
  have HF : Hid (fewF p = (decide (n ≤ 5) && p.words.all (fun l => decide (l.length ≤ 5000)))) := by show _ = _; unfold fewF; rw [HWL.out]
  have hm := h.n63
  unfold maxLen at hm
  clear h
  by_cases h5 : 5 < n
  · have h5z : (5 : Int) < (n : Int) := by omega
    go_enter Try.func13, Try.ntmps13
    go_wp2
    go_ret
    refine ⟨ret_bool ?_, by go_grown⟩
    rw [HF.out, decide_eq_false (by omega)]; rfl
  have h5z : ¬ (5 : Int) < (n : Int) := by omega
  have HF2 : Hid (fewF p = p.words.all (fun l => decide (l.length ≤ 5000))) := by show _ = _; rw [HF.out, decide_eq_true (by omega), Bool.true_and]
  go_enter Try.func13, Try.ntmps13
  go_wp2
  have RA : Hid (Row (World.alloc w (.cells #[.int .i64 p.w, .int .i64 p.h, .int .i64 p.edge, .slice A n c] 28)) w.heap.size 28 [.int .i64 p.w, .int .i64 p.h, .int .i64 p.edge, .slice A n c]) := Row.new w 28 [.int .i64 p.w, .int .i64 p.h, .int .i64 p.edge, .slice A n c]
  have HB : Hid (Below w.heap.size w (World.alloc w (.cells #[.int .i64 p.w, .int .i64 p.h, .int .i64 p.edge, .slice A n c] 28))) := (show Below _ _ _ by go_grown)
  revert RA HB
  generalize World.alloc w (.cells #[.int .i64 p.w, .int .i64 p.h, .int .i64 p.edge, .slice A n c] 28) = w1
  intro RA HB
  have k0 := RA.out.cell 0
  have k1 := RA.out.cell 1
  have k2 := RA.out.cell 2
  have k3 := RA.out.cell 3
  have kl := RA.out.lt
  simp only [List.getElem?_cons_zero, List.getElem?_cons_succ] at k0 k1 k2 k3
  go_loopg [3, 11] n (fun gg _ s11 wr => ∃ kk : Nat, kk ≤ n ∧ n - kk ≤ gg ∧ s11 = .int .i64 kk ∧ wr = w1 ∧ Aside (∀ j, j < kk → (p.words.getD j []).length ≤ 5000))
  case atStart => exact ⟨0, Nat.zero_le _, by omega, rfl, rfl, fun j hj => absurd hj (Nat.not_lt_zero _)⟩
  case round =>
    obtain ⟨kk, hkk, hgg, rfl, rfl, AA⟩ := hrel
    by_cases hlt : kk < n
    · have hltz : (kk : Int) < (n : Int) := by omega
      obtain ⟨ad, rfl, hbl, hc, hrd, hlm, hle⟩ := (H.out.up HB.out).row hlt
      generalize sl.getD kk default = s at hc hrd hlm hle
      obtain ⟨sa, sn, sc⟩ := s
      dsimp only at hc hrd hlm hle
      have HLE : Hid ((p.words.getD kk []).length = sn) := hle
      unfold maxLen at hlm
      clear hle hrd
      by_cases hb : 5000 < sn
      · have hbz : (5000 : Int) < (sn : Int) := by omega
        go_wp2
        go_ret
        refine ⟨ret_bool ?_, HB.out⟩
        rw [HF2.out]
        symm
        exact all_false_row _ _ kk (by rw [HWL.out]; exact hlt) (decide_eq_false (by rw [HLE.out]; omega))
      · have hbz : ¬ (5000 : Int) < (sn : Int) := by omega
        go_wp2
        go_roundg (n - (kk + 1))
        case measure => omega
        case rel =>
          refine ⟨kk + 1, by omega, by omega, by go_num, rfl, (show Aside _ from fun j hj => ?_)⟩
          by_cases e : j = kk
          · subst e; rw [HLE.out]; omega
          · exact AA.out j (by omega)
    · have hltz : ¬ (kk : Int) < (n : Int) := by omega
      obtain rfl : kk = n := by omega
      go_wp2
      go_ret
      refine ⟨ret_bool ?_, HB.out⟩
      rw [HF2.out]
      symm
      exact all_true_row _ _ (fun j hj => decide_eq_true (AA.out j (by rw [HWL.out] at hj; exact hj)))
end Go.Proofs.Ytfknooffjhncgaa
