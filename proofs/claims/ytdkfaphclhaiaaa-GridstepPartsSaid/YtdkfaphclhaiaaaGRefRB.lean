/-
  The reference's Right of grids, and both Same, walked.
-/
import Derived.Test.YtdkfaphclhaiaaaGSmall
import Derived.Test.YtdkfaphclhaiaaaWalk
import Derived.Test.YtdkfaphclhaiaaaListEq
import Derived.Deep.QuietTactic
import Derived.BigQuiet
import Derived.Deep.Light
namespace Go.Proofs.Ytdkfaphclhaiaaa
open Go.RowKit
set_option linter.unusedSimpArgs false
set_option linter.unusedVariables false

set_option maxHeartbeats 1000000 in
theorem rGRight_any (g : Grd) (A : Option Addr) (n c : Nat) (w : World) (h : GAt w g A n) :
    Calls Try.prog 35 #[.agg #[.int .i64 g.w, .int .i64 g.h, .int .i64 g.edge, .slice A n c]] w fun e w' => e = .returned (.bool (rightG g)) ∧ Below w.heap.size w w' := by
  have H : Hid (GAt w g A n) := h
  have HL : Hid (g.cells.length = n) := h.cl
  have hm := h.c63
  unfold maxLen at hm
  clear h
  cases hs : sizedF g.w g.h g.edge
  · have hr : rightG g = false := by simp [rightG, hs]
    rw [hr]
    go_enter Try.func35, Try.ntmps35
    go_wp2_with fail
    refine (rSize_any g.w g.h g.edge _).mono ?_
    rw [hs]
    rintro e w1 ⟨rfl, rfl⟩
    go_wp2
    go_ret
    exact ⟨rfl, by go_grown⟩
  · obtain ⟨⟨q1, q2⟩, ⟨h1, h2⟩, hm', he1, he2⟩ := sizedF_parts hs
    obtain ⟨p1, p2⟩ := prod_bd ⟨q1, q2⟩ ⟨h1, h2⟩
    by_cases hl : (n : Int) = g.w * g.h
    · have hr : Hid (rightG g = g.cells.all stateOk) := by show _ = _; simp [rightG, hs, HL.out, hl]
      have hb1 : ((n : Int) != g.w * g.h) = false := by simpa using hl
      clear hl
      go_enter Try.func35, Try.ntmps35
      go_wp2_with fail
      refine (rSize_any g.w g.h g.edge _).mono ?_
      rw [hs]
      rintro e w1 ⟨rfl, rfl⟩
      go_wp2
      go_loopg [3] n (fun gg s3 wr => ∃ kk : Nat, kk ≤ n ∧ n - kk ≤ gg ∧ s3 = .int .i64 kk ∧ wr = w.alloc (.cells #[.int .i64 g.w, .int .i64 g.h, .int .i64 g.edge, .slice A n c] 28) ∧ Aside (∀ j, j < kk → stateOk (g.cells.getD j 0) = true))
      case atStart => exact ⟨0, Nat.zero_le _, by omega, rfl, rfl, fun j hj => absurd hj (Nat.not_lt_zero _)⟩
      case round =>
        obtain ⟨kk, hkk, hg, rfl, rfl, AA⟩ := hrel
        by_cases hlt : kk < n
        · have hltz : (kk : Int) < (n : Int) := by omega
          obtain ⟨ad, rfl, hb, hcell⟩ := H.out.cells.int hlt
          have hadz : (ad.add kk).block < w.heap.size := by rw [add_block]; exact hb
          generalize hy : g.cells.getD kk 0 = y at hcell
          have HY : Aside (g.cells.getD kk 0 = y) := hy
          clear hy
          by_cases hs1 : y < 0
          · go_wp2
            go_ret
            refine ⟨ret_bool ?_, by go_grown⟩
            rw [hr.out]
            exact (all_false_at _ _ kk (by rw [HL.out]; exact hlt) (by rw [HY.out]; unfold stateOk; rw [decide_eq_false]; omega)).symm
          · by_cases hs2 : 8 ≤ y
            · go_wp2
              go_ret
              refine ⟨ret_bool ?_, by go_grown⟩
              rw [hr.out]
              exact (all_false_at _ _ kk (by rw [HL.out]; exact hlt) (by rw [HY.out]; unfold stateOk; rw [decide_eq_false]; omega)).symm
            · go_wp2
              go_roundg (n - (kk + 1))
              case measure => omega
              case rel =>
                refine ⟨kk + 1, by omega, by omega, by go_num, rfl, (show Aside _ from fun j hj => ?_)⟩
                by_cases e : j = kk
                · subst e
                  rw [HY.out]; unfold stateOk; rw [decide_eq_true_eq]; omega
                · exact AA.out j (by omega)
        · have hltz : ¬ (kk : Int) < (n : Int) := by omega
          obtain rfl : kk = n := by omega
          go_wp2
          go_ret
          refine ⟨ret_bool ?_, by go_grown⟩
          rw [hr.out]
          exact (all_true_at _ _ (fun k hk => AA.out k (by rw [HL.out] at hk; exact hk))).symm
    · have hr : rightG g = false := by simp [rightG, hs, HL.out, hl]
      rw [hr]
      have hb1 : ((n : Int) != g.w * g.h) = true := by simpa using hl
      clear hr
      go_enter Try.func35, Try.ntmps35
      go_wp2_with fail
      refine (rSize_any g.w g.h g.edge _).mono ?_
      rw [hs]
      rintro e w1 ⟨rfl, rfl⟩
      go_wp2
      all_goals go_ret
      all_goals exact ⟨rfl, by go_grown⟩

set_option maxHeartbeats 1000000 in
theorem rGSame_any (a b : Grd) (A B : Option Addr) (n c m d : Nat) (w : World) (ha : GAt w a A n) (hb : GAt w b B m) :
    Calls Try.prog 13 #[.agg #[.int .i64 a.w, .int .i64 a.h, .int .i64 a.edge, .slice A n c], .agg #[.int .i64 b.w, .int .i64 b.h, .int .i64 b.edge, .slice B m d]] w fun e w' => e = .returned (.bool (sameG a b)) ∧ Below w.heap.size w w' := by
  have HA : Hid (GAt w a A n) := ha
  have HB : Hid (GAt w b B m) := hb
  have LA : Hid (a.cells.length = n) := ha.cl
  have LB : Hid (b.cells.length = m) := hb.cl
  have h1 := ha.c63
  have h2 := hb.c63
  unfold maxLen at h1 h2
  clear ha hb
  by_cases hq : a.w = b.w ∧ a.h = b.h ∧ a.edge = b.edge ∧ n = m
  · obtain ⟨q1, q2, q3, q4⟩ := hq
    have HE : Hid (sameG a b = decide (a.cells = b.cells)) := by show _ = _; simp [sameG, q1, q2, q3]
    have e1 : (a.w != b.w) = false := by simpa using q1
    have e2 : (a.h != b.h) = false := by simpa using q2
    have e3 : (a.edge != b.edge) = false := by simpa using q3
    subst q4
    clear q1 q2 q3
    go_enter Try.func13, Try.ntmps13
    go_wp2
    go_loopg [5] n (fun gg s5 wr => ∃ kk : Nat, kk ≤ n ∧ n - kk ≤ gg ∧ s5 = .int .i64 kk ∧ Aside (Below (w.heap.size + 1 + 1) ((w.alloc (.cells #[.int .i64 a.w, .int .i64 a.h, .int .i64 a.edge, .slice A n c] 28)).alloc (.cells #[.int .i64 b.w, .int .i64 b.h, .int .i64 b.edge, .slice B n d] 28)) wr) ∧ Aside (∀ j, j < kk → a.cells.getD j 0 = b.cells.getD j 0))
    case atStart => exact ⟨0, Nat.zero_le _, by omega, rfl, Below.refl _ _, fun j hj => absurd hj (Nat.not_lt_zero _)⟩
    case round =>
      obtain ⟨kk, hkk, hg, rfl, BW, AA⟩ := hrel
      have a3 : wr.cell? ⟨w.heap.size, 3, none⟩ = some (.slice A n c) := (BW.out.cell (p := ⟨w.heap.size, 3, none⟩) (by simp; omega)).trans (by simp)
      have b3 : wr.cell? ⟨w.heap.size + 1, 3, none⟩ = some (.slice B n d) := (BW.out.cell (p := ⟨w.heap.size + 1, 3, none⟩) (by simp)).trans (by simp)
      have HBW : Hid (Below w.heap.size w wr) := (show Below w.heap.size w ((w.alloc (.cells #[.int .i64 a.w, .int .i64 a.h, .int .i64 a.edge, .slice A n c] 28)).alloc (.cells #[.int .i64 b.w, .int .i64 b.h, .int .i64 b.edge, .slice B n d] 28)) by go_grown).trans (BW.out.mono (by omega))
      by_cases hlt : kk < n
      · have hltz : (kk : Int) < (n : Int) := by omega
        obtain ⟨ad, rfl, hb, hcell⟩ := (HA.out.up HBW.out).cells.int hlt
        obtain ⟨ad', rfl, hb', hcell'⟩ := (HB.out.up HBW.out).cells.int hlt
        generalize h1 : a.cells.getD kk 0 = x at hcell
        generalize h2 : b.cells.getD kk 0 = y at hcell'
        have HE : Aside (a.cells.getD kk 0 = x ∧ b.cells.getD kk 0 = y) := ⟨h1, h2⟩
        clear h1 h2
        cases hxy : (x != y)
        · go_wp2_with fail
          go_quiet (fail)
          go_wp2
          go_roundg (n - (kk + 1))
          case measure => omega
          case rel =>
            refine ⟨kk + 1, by omega, by omega, by go_num, (show Below _ _ _ from below_drewN BW.out _), (show Aside _ from fun j hj => ?_)⟩
            by_cases e : j = kk
            · subst e
              rw [HE.out.1, HE.out.2]
              simpa using hxy
            · exact AA.out j (by omega)
        · go_wp2_with fail
          go_quiet (fail)
          go_wp2
          go_ret
          refine ⟨ret_bool ?_, below_drewN HBW.out _⟩
          symm
          rename Hid (sameG a b = _) => HS
          rw [HS.out, decide_eq_false_iff_not]
          intro e
          have := HE.out.1.symm.trans ((congrArg (fun l => l.getD kk 0) e).trans HE.out.2)
          simp [this] at hxy
      · have hltz : ¬ (kk : Int) < (n : Int) := by omega
        obtain rfl : kk = n := by omega
        go_wp2
        go_ret
        refine ⟨ret_bool ?_, HBW.out⟩
        symm
        rw [HE.out, decide_eq_true_iff]
        exact list_eq_of_getD (LA.out.trans LB.out.symm) 0 (fun k hk => AA.out k (by rw [LA.out] at hk; exact hk))
  · have HE : Hid (sameG a b = false) := by
      show _ = _
      rw [Bool.eq_false_iff]
      intro e
      rw [sameG_iff] at e
      subst e
      exact hq ⟨rfl, rfl, rfl, LA.out.symm.trans LB.out⟩
    have hq' : ¬ (a.w = b.w ∧ a.h = b.h ∧ a.edge = b.edge ∧ (n : Int) = (m : Int)) := fun e => hq ⟨e.1, e.2.1, e.2.2.1, by omega⟩
    go_enter Try.func13, Try.ntmps13
    go_wp2
    all_goals first
      | (go_ret; rw [HE.out]; exact ⟨rfl, by go_grown⟩)
      | (exfalso; apply hq'; simp_all; done)
end Go.Proofs.Ytdkfaphclhaiaaa
