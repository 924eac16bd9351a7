/-
  grid.sized, grid.modulo, grid.inside and the reference's Size, Mod, At, walked.
-/
import Derived.Test.YtdkfaphclhaiaaaProg
import Derived.Test.YtdkfaphclhaiaaaGPlain
namespace Go.Proofs.Ytdkfaphclhaiaaa
open Go.RowKit
set_option linter.unusedSimpArgs false
set_option linter.unusedVariables false

theorem ret_ib {a b : Int} {x y : Bool} (h : a = b) (h' : x = y) : Ending.returned (.tuple #[.int .i64 a, .bool x]) = .returned (.tuple #[.int .i64 b, .bool y]) := by rw [h, h']
theorem mod_walk2 (n m : Int) (hm : 0 < m) : (Int.tmod n m + m) % m = n % m := by
  have h1 : 0 ≤ Int.tmod n m + m := by
    have := Int.lt_tmod_of_pos n hm
    omega
  rw [← Int.tmod_eq_emod_of_nonneg h1, mod_walk n m hm]
theorem sizedF_false {a b e : Int} (h : ¬ ((1 ≤ a ∧ a ≤ 256) ∧ (1 ≤ b ∧ b ≤ 256))) : sizedF a b e = false := by
  unfold sizedF; rw [decide_eq_false]; omega

set_option maxHeartbeats 400000 in
theorem sized_any (a b e : Int) (w : World) :
    Calls Try.prog 43 #[.int .i64 a, .int .i64 b, .int .i64 e] w fun en w' => en = .returned (.bool (sizedF a b e)) ∧ w = w' := by
  by_cases hr : (1 ≤ a ∧ a ≤ 256) ∧ (1 ≤ b ∧ b ≤ 256)
  · obtain ⟨ha, hb⟩ := hr
    have hp := prod_bd ha hb
    obtain ⟨ha1, ha2⟩ := ha
    obtain ⟨hb1, hb2⟩ := hb
    obtain ⟨hp1, hp2⟩ := hp
    go_enter Try.func43, Try.ntmps43
    go_wp2
    all_goals go_ret
    all_goals refine ⟨ret_bool ?_, rfl⟩
    all_goals unfold sizedF
    all_goals (rw [Bool.eq_iff_iff]; simp; omega)
  · rw [sizedF_false hr]
    go_enter Try.func43, Try.ntmps43
    go_wp2
    all_goals go_ret
    all_goals refine ⟨ret_bool ?_, rfl⟩
    all_goals first | rfl | (exfalso; omega)

set_option maxHeartbeats 400000 in
theorem rSize_any (a b e : Int) (w : World) :
    Calls Try.prog 47 #[.int .i64 a, .int .i64 b, .int .i64 e] w fun en w' => en = .returned (.bool (sizedF a b e)) ∧ w = w' := by
  by_cases hr : (1 ≤ a ∧ a ≤ 256) ∧ (1 ≤ b ∧ b ≤ 256)
  · obtain ⟨ha, hb⟩ := hr
    have hp := prod_bd ha hb
    obtain ⟨ha1, ha2⟩ := ha
    obtain ⟨hb1, hb2⟩ := hb
    obtain ⟨hp1, hp2⟩ := hp
    go_enter Try.func47, Try.ntmps47
    go_wp2
    all_goals go_ret
    all_goals refine ⟨ret_bool ?_, rfl⟩
    all_goals unfold sizedF
    all_goals (rw [Bool.eq_iff_iff]; simp; omega)
  · rw [sizedF_false hr]
    go_enter Try.func47, Try.ntmps47
    go_wp2
    all_goals go_ret
    all_goals refine ⟨ret_bool ?_, rfl⟩
    all_goals first | rfl | (exfalso; omega)

set_option maxHeartbeats 400000 in
theorem modulo_any (n m : Int) (w : World) (h1 : 1 ≤ m) (h2 : m ≤ 1000000) :
    Calls Try.prog 32 #[.int .i64 n, .int .i64 m] w fun en w' => en = .returned (.int .i64 (n % m)) ∧ w = w' := by
  have hb := tmod_bd n m (by omega)
  have hm : Hid ((Int.tmod n m + m) % m = n % m) := mod_walk2 n m (by omega)
  obtain ⟨hb1, hb2⟩ := hb
  go_enter Try.func32, Try.ntmps32
  go_wp2
  go_ret
  exact ⟨ret_i64 hm.out, rfl⟩

set_option maxHeartbeats 400000 in
theorem rMod_any (n m : Int) (w : World) (h1 : 1 ≤ m) (h2 : m ≤ 1000000) :
    Calls Try.prog 53 #[.int .i64 n, .int .i64 m] w fun en w' => en = .returned (.int .i64 (n % m)) ∧ w = w' := by
  have hb := tmod_bd n m (by omega)
  have hm : Hid ((Int.tmod n m + m) % m = n % m) := mod_walk2 n m (by omega)
  obtain ⟨hb1, hb2⟩ := hb
  go_enter Try.func53, Try.ntmps53
  go_wp2
  go_ret
  exact ⟨ret_i64 hm.out, rfl⟩

set_option maxHeartbeats 400000 in
theorem inside_any (x s e : Int) (w : World) (h1 : 1 ≤ s) (h2 : s ≤ 256) :
    Calls Try.prog 51 #[.int .i64 x, .int .i64 s, .int .i64 e] w fun en w' => en = .returned (.tuple #[.int .i64 (inV x s e), .bool (inB x s e)]) ∧ w = w' := by
  by_cases e2 : e = 2
  · subst e2
    have hb := mod_bd x (2 * s) (by omega)
    obtain ⟨hb1, hb2⟩ := hb
    have hV : inV x s 2 = foldF x s := rfl
    have hB : inB x s 2 = true := rfl
    have hf := foldF_bd x s (by omega)
    obtain ⟨hf1, hf2⟩ := hf
    rw [hV, hB]
    clear hV hB
    go_enter Try.func51, Try.ntmps51
    go_wp2_with fail
    refine (modulo_any x (2 * s) _ (by omega) (by omega)).mono ?_
    rintro en w' ⟨rfl, rfl⟩
    by_cases hk : s ≤ x % (2 * s)
    · have hfe : Hid (foldF x s = 2 * s - 1 - x % (2 * s)) := by show _ = _; unfold foldF; rw [if_pos hk]
      have hem : Hid ((2 * s - 1 - x % (2 * s)) % s = 2 * s - 1 - x % (2 * s)) := Int.emod_eq_of_lt (by omega) (by omega)
      clear hf1 hf2
      generalize x % (2 * s) = k at *
      go_wp2_with fail
      refine (modulo_any (2 * s - 1 - k) s _ (by omega) (by omega)).mono ?_
      rintro en w' ⟨rfl, rfl⟩
      rw [hem.out]
      go_wp2
      go_ret2
      rw [hfe.out]
      refine ⟨ret_ib rfl ?_, rfl⟩
      first | rfl | (rw [decide_eq_true_eq]; omega) | (simp; omega)
    · have hfe : Hid (foldF x s = x % (2 * s)) := by show _ = _; unfold foldF; rw [if_neg hk]
      have hem : Hid ((x % (2 * s)) % s = x % (2 * s)) := Int.emod_eq_of_lt (by omega) (by omega)
      clear hf1 hf2
      generalize x % (2 * s) = k at *
      go_wp2_with fail
      refine (modulo_any k s _ (by omega) (by omega)).mono ?_
      rintro en w' ⟨rfl, rfl⟩
      rw [hem.out]
      go_wp2
      go_ret2
      rw [hfe.out]
      refine ⟨ret_ib rfl ?_, rfl⟩
      first | rfl | (rw [decide_eq_true_eq]; omega) | (simp; omega)
  · by_cases e1 : e = 1
    · subst e1
      have hV : inV x s 1 = x % s := rfl
      have hB : inB x s 1 = true := rfl
      have hb := mod_bd x s (by omega)
      obtain ⟨hb1, hb2⟩ := hb
      rw [hV, hB]
      clear hV hB
      go_enter Try.func51, Try.ntmps51
      go_wp2_with fail
      refine (modulo_any x s _ (by omega) (by omega)).mono ?_
      rintro en w' ⟨rfl, rfl⟩
      generalize hk : x % s = k at hb1 hb2 ⊢
      have HK : Hid (x % s = k) := hk
      clear hk
      go_wp2
      go_ret2
      exact ⟨ret_ib HK.out.symm rfl, rfl⟩
    · have hV : inV x s e = x := by unfold inV; rw [if_neg e2, if_neg e1]
      have hB : inB x s e = decide (0 ≤ x ∧ x < s) := by unfold inB; rw [if_neg (by omega)]
      rw [hV, hB]
      clear hV hB
      go_enter Try.func51, Try.ntmps51
      go_wp2
      all_goals go_ret2
      all_goals refine ⟨ret_ib rfl ?_, rfl⟩
      all_goals (rw [Bool.eq_iff_iff]; simp; omega)

set_option maxHeartbeats 400000 in
theorem rAt_any (x s e : Int) (w : World) (h1 : 1 ≤ s) (h2 : s ≤ 256) :
    Calls Try.prog 48 #[.int .i64 x, .int .i64 s, .int .i64 e] w fun en w' => en = .returned (.int .i64 (atF x s e)) ∧ w = w' := by
  by_cases hx : 0 ≤ x ∧ x < s
  · have hV : atF x s e = x := by unfold atF; rw [if_pos hx]
    obtain ⟨hx1, hx2⟩ := hx
    rw [hV]
    clear hV
    go_enter Try.func48, Try.ntmps48
    go_wp2
    go_ret
    exact ⟨rfl, rfl⟩
  · by_cases e1 : e = 1
    · subst e1
      have hV : atF x s 1 = x % s := by unfold atF; rw [if_neg hx, if_pos rfl]
      rw [hV]
      clear hV
      go_enter Try.func48, Try.ntmps48
      go_wp2_with (go_at_call 53
                   refine (rMod_any x s _ (by omega) (by omega)).mono ?_
                   rintro en w' ⟨rfl, rfl⟩)
      all_goals first | (go_ret; exact ⟨rfl, rfl⟩) | (exfalso; omega)
    · by_cases e2 : e = 2
      · subst e2
        have hV : atF x s 2 = foldF x s := by unfold atF; rw [if_neg hx, if_neg (by omega), if_pos rfl]
        have hb := mod_bd x (2 * s) (by omega)
        obtain ⟨hb1, hb2⟩ := hb
        rw [hV]
        clear hV
        go_enter Try.func48, Try.ntmps48
        go_wp2_with (go_at_call 53
                     refine (rMod_any x (2 * s) _ (by omega) (by omega)).mono ?_
                     rintro en w' ⟨rfl, rfl⟩
                     generalize hk : x % (2 * s) = k at hb1 hb2 ⊢
                     have HK : Hid (x % (2 * s) = k) := hk
                     clear hk)
        all_goals (go_ret; refine ⟨ret_i64 ?_, rfl⟩; unfold foldF; rw [HK.out]; split <;> omega)
      · have hV : atF x s e = -1 := by unfold atF; rw [if_neg hx, if_neg e1, if_neg e2]
        rw [hV]
        clear hV
        go_enter Try.func48, Try.ntmps48
        go_wp2
        all_goals first | (go_ret; exact ⟨rfl, rfl⟩) | (exfalso; omega)
end Go.Proofs.Ytdkfaphclhaiaaa
