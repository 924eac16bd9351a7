/-
  plane.inside, walked.
-/
import Derived.Test.YtfknooffjhncgaaGSmall
import Derived.Test.YtfknooffjhncgaaPRight
namespace Go.Proofs.Ytfknooffjhncgaa
open Go.RowKit
set_option linter.unusedSimpArgs false
set_option linter.unusedVariables false
/-- What inside returns where the place lies at v, or nowhere (v < 0). -/
def inPair (v : Int) : Value := .tuple #[.int .i64 (if 0 ≤ v then v else 0), .bool (decide (0 ≤ v))]
theorem inPair_in {v : Int} (h : 0 ≤ v) : inPair v = .tuple #[.int .i64 v, .bool true] := by unfold inPair; rw [if_pos h, decide_eq_true h]
theorem inPair_out : inPair (-1) = .tuple #[.int .i64 0, .bool false] := rfl

set_option maxHeartbeats 1000000 in
theorem pInside_any (x s e : Int) (w : World) (h1 : 1 ≤ s) (h2 : s ≤ 256) (hx1 : -100000 ≤ x) (hx2 : x ≤ 100000) :
    Calls Try.prog 38 #[.int .i64 x, .int .i64 s, .int .i64 e] w fun en w' => en = .returned (inPair (atF x s e)) ∧ w = w' := by
  by_cases hx : 0 ≤ x ∧ x < s
  · have hV : atF x s e = x := by unfold atF; rw [if_pos hx]
    obtain ⟨hx1, hx2⟩ := hx
    rw [hV, inPair_in hx1]
    clear hV
    go_enter Try.func38, Try.ntmps38
    go_wp2
    go_ret2
    exact ⟨rfl, rfl⟩
  · by_cases e1 : e = 1
    · subst e1
      have hV : atF x s 1 = x % s := by unfold atF; rw [if_neg hx, if_pos rfl]
      have hb := tmod_bd x s (by omega)
      have hm := mod_walk2 x s (by omega)
      have hm2 : Hid (Int.tmod x s % s = x % s) := by rw [Int.add_emod_right] at hm; exact hm
      obtain ⟨hb1, hb2⟩ := hb
      have hmb := mod_bd x s (by omega)
      rw [hV, inPair_in hmb.1]
      clear hV hm
      by_cases hx0 : 0 ≤ x
      · generalize hk : x % s = k at hmb ⊢
        have hmb1 := hmb.1
        have hmb2 := hmb.2
        have hkk : k % s = k := Int.emod_eq_of_lt hmb1 hmb2
        clear hmb hm2 hb1 hb2
        go_enter Try.func38, Try.ntmps38
        go_wp2
        all_goals first | (exfalso; omega) | (go_ret2; exact ⟨ret_ib (by first | rfl | exact hkk | (rw [Int.add_emod_right]; exact hkk)) rfl, rfl⟩)
      · clear hmb
        go_enter Try.func38, Try.ntmps38
        go_wp2
        all_goals first | (exfalso; omega) | (go_ret2; exact ⟨ret_ib hm2.out rfl, rfl⟩)
    · by_cases e2 : e = 2
      · subst e2
        have hV : atF x s 2 = foldF x s := by unfold atF; rw [if_neg hx, if_neg (by omega), if_pos rfl]
        have hb := tmod_bd x (2 * s) (by omega)
        have hm : (Int.tmod x (2 * s) + 2 * s) % (2 * s) = x % (2 * s) := mod_walk2 x (2 * s) (by omega)
        obtain ⟨hb1, hb2⟩ := hb
        have hfb := foldF_bd x s (by omega)
        have hf : foldF x s = min (x % (2 * s)) (2 * s - 1 - x % (2 * s)) := by unfold foldF; split <;> omega
        have hmb := mod_bd x (2 * s) (by omega)
        rw [hV, inPair_in hfb.1, hf]
        have hm2 := hm
        rw [Int.add_emod_right] at hm2
        generalize hk : x % (2 * s) = k at hm hm2 hmb ⊢
        have hmb1 := hmb.1
        have hmb2 := hmb.2
        clear hV hfb hf hmb
        by_cases hx0 : 0 ≤ x
        · have hkk : k % (2 * s) = k := Int.emod_eq_of_lt hmb1 hmb2
          clear hm hm2 hb1 hb2
          go_enter Try.func38, Try.ntmps38
          go_wp2
          all_goals first | (exfalso; omega) | (go_ret2; refine ⟨ret_ib ?_ rfl, rfl⟩; omega)
        · clear hk
          go_enter Try.func38, Try.ntmps38
          go_wp2
          all_goals first | (exfalso; omega) | (go_ret2; refine ⟨ret_ib ?_ rfl, rfl⟩; omega)
      · have hV : atF x s e = -1 := by unfold atF; rw [if_neg hx, if_neg e1, if_neg e2]
        rw [hV, inPair_out]
        clear hV
        go_enter Try.func38, Try.ntmps38
        go_wp2
        all_goals first | (exfalso; omega) | (go_ret2; exact ⟨rfl, rfl⟩)
end Go.Proofs.Ytfknooffjhncgaa
