/-
  grid.Right, its closure, and the reference's Right, walked.
-/
import Derived.Test.YtdkfaphclhaiaaaIndexFunc
import Derived.Test.YtdkfaphclhaiaaaGSmall
import Derived.Test.YtdkfaphclhaiaaaWalk
import Derived.Deep.QuietTactic
import Derived.BigQuiet
import Derived.Deep.Light
namespace Go.Proofs.Ytdkfaphclhaiaaa
open Go.RowKit
set_option linter.unusedSimpArgs false
set_option linter.unusedVariables false

set_option maxHeartbeats 400000 in
theorem gState_any (x : Int) (w : World) :
    Calls Try.prog 44 #[.int .i64 x] w fun e w' => e = .returned (.bool (!stateOk x)) ∧ w = w' := by
  go_enter Try.func44, Try.ntmps44
  go_wp2
  all_goals go_ret
  all_goals refine ⟨ret_bool ?_, rfl⟩
  all_goals unfold stateOk
  all_goals first | (rw [Bool.eq_iff_iff]; simp; omega) | (rw [Bool.eq_iff_iff]; simp; done)

set_option maxHeartbeats 400000 in
theorem gRight_any (g : Grd) (A : Option Addr) (n c : Nat) (w : World) (h : GAt w g A n) :
    Calls Try.prog 31 #[.agg #[.int .i64 g.w, .int .i64 g.h, .int .i64 g.edge, .slice A n c]] w fun e w' => e = .returned (.bool (rightG g)) ∧ Below w.heap.size w w' := by
  have H : Hid (GAt w g A n) := h
  have HL : Hid (g.cells.length = n) := h.cl
  have hm := h.c63
  unfold maxLen at hm
  clear h
  cases hs : sizedF g.w g.h g.edge
  · have hr : rightG g = false := by simp [rightG, hs]
    rw [hr]
    go_enter Try.func31, Try.ntmps31
    go_wp2_with fail
    refine (sized_any g.w g.h g.edge _).mono ?_
    rw [hs]
    rintro e w1 ⟨rfl, rfl⟩
    go_wp2
    go_ret
    exact ⟨rfl, by go_grown⟩
  · obtain ⟨⟨q1, q2⟩, ⟨h1, h2⟩, hm', he1, he2⟩ := sizedF_parts hs
    obtain ⟨p1, p2⟩ := prod_bd ⟨q1, q2⟩ ⟨h1, h2⟩
    by_cases hl : (n : Int) = g.w * g.h
    · have hr : rightG g = g.cells.all stateOk := by simp [rightG, hs, HL.out, hl]
      rw [hr]
      have hb1 : ((n : Int) == g.w * g.h) = true := by simpa using hl
      clear hr hl
      go_enter Try.func31, Try.ntmps31
      go_wp2_with fail
      refine (sized_any g.w g.h g.edge _).mono ?_
      rw [hs]
      rintro e w1 ⟨rfl, rfl⟩
      go_wp2_with fail
      refine (containsFunc_ints A n c g.cells _ _ (fun x => !stateOk x) _ (enters Try.func44 (by kernel_rfl) rfl) (H.out.up (by go_grown)).cells (by omega) ?_).mono ?_
      · intro W x hx hb
        refine (gState_any x W).mono ?_
        rintro e w' ⟨rfl, rfl⟩
        exact ⟨rfl, hb⟩
      · rintro e w' ⟨rfl, hb⟩
        have HB : Hid (Below w.heap.size w w') := below_next hb (by go_grown)
        clear hb
        go_wp2
        go_ret
        refine ⟨ret_bool ?_, HB.out⟩
        simp [List.all_eq_not_any_not]
    · have hr : rightG g = false := by simp [rightG, hs, HL.out, hl]
      rw [hr]
      have hb1 : ((n : Int) == g.w * g.h) = false := by simpa using hl
      clear hr
      go_enter Try.func31, Try.ntmps31
      go_wp2_with fail
      refine (sized_any g.w g.h g.edge _).mono ?_
      rw [hs]
      rintro e w1 ⟨rfl, rfl⟩
      go_wp2
      all_goals go_ret
      all_goals exact ⟨rfl, by go_grown⟩
end Go.Proofs.Ytdkfaphclhaiaaa
