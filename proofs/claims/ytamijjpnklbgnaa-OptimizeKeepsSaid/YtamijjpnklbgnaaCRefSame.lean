/-
  The reference's Same of circuits, walked.
-/
import Derived.Test.YtamijjpnklbgnaaGateNeq
import Derived.Deep.Light
namespace Go.Proofs.Ytamijjpnklbgnaa
open Go.RowKit
set_option linter.unusedSimpArgs false
set_option linter.unusedVariables false

set_option maxRecDepth 100000 in
set_option maxHeartbeats 1000000 in
theorem rSame_any (i j : Int) (GA OA GB OB : Option Addr) (gn gc on oc hn hc pn pc : Nat) (gs hs : List Gt) (os ps : List Int) (w : World)
    (hG : Rd w w.heap.size 3 GA gn (gatesCells gs)) (hO : Rd w w.heap.size 1 OA on (ints os)) (hm1 : gn ≤ maxLen) (hm2 : on ≤ maxLen)
    (hH : Rd w w.heap.size 3 GB hn (gatesCells hs)) (hP : Rd w w.heap.size 1 OB pn (ints ps)) (hm3 : hn ≤ maxLen) (hm4 : pn ≤ maxLen) :
    Calls Try.prog 11 #[.agg #[.int .i64 i, .slice GA gn gc, .slice OA on oc], .agg #[.int .i64 j, .slice GB hn hc, .slice OB pn pc]] w fun e w' =>
      e = .returned (.bool (sameC ⟨i, gs, os⟩ ⟨j, hs, ps⟩)) ∧ Below w.heap.size w w' := by
  unfold maxLen at hm1 hm2 hm3 hm4
  have LG : Hid (gs.length = gn) := by have := hG.1; rw [gatesCells_length] at this; show _ = _; omega
  have LH : Hid (hs.length = hn) := by have := hH.1; rw [gatesCells_length] at this; show _ = _; omega
  have LO : Hid (os.length = on) := by have := hO.1; simp at this; show _ = _; omega
  have LP : Hid (ps.length = pn) := by have := hP.1; simp at this; show _ = _; omega
  have HG : Hid (Rd w w.heap.size 3 GA gn (gatesCells gs)) := hG
  have HO : Hid (Rd w w.heap.size 1 OA on (ints os)) := hO
  have HH : Hid (Rd w w.heap.size 3 GB hn (gatesCells hs)) := hH
  have HP : Hid (Rd w w.heap.size 1 OB pn (ints ps)) := hP
  clear hG hO hH hP
  by_cases hok : i = j ∧ gn = hn ∧ on = pn
  · obtain ⟨rfl, rfl, rfl⟩ := hok
    go_enter Try.func11, Try.ntmps11
    go_wp2
    go_loopg [5] gn (fun gg s5 wr => ∃ kk : Nat, kk ≤ gn ∧ gn - kk ≤ gg ∧ s5 = .int .i64 kk ∧ Aside (Below (w.heap.size + 2) ((w.alloc (.cells #[.int .i64 i, .slice GA gn gc, .slice OA on oc] 25)).alloc (.cells #[.int .i64 i, .slice GB gn hc, .slice OB on pc] 25)) wr) ∧ Aside (∀ k, k < kk → gs.getD k default = hs.getD k default))
    case atStart => exact ⟨0, Nat.zero_le _, by omega, rfl, Below.refl _ _, fun j hj => absurd hj (Nat.not_lt_zero _)⟩
    case round =>
      obtain ⟨kk, hkk, hg, rfl, BW, AA⟩ := hrel
      have hc1 : wr.cell? ⟨w.heap.size, 1, none⟩ = some (.slice GA gn gc) := (BW.out.cell (p := ⟨w.heap.size, 1, none⟩) (by simp)).trans (by go_cell)
      have hd1 : wr.cell? ⟨w.heap.size + 1, 1, none⟩ = some (.slice GB gn hc) := (BW.out.cell (p := ⟨w.heap.size + 1, 1, none⟩) (by simp)).trans (by go_cell)
      have B0 : Below w.heap.size w wr := (show Below w.heap.size w _ by go_grown).trans (BW.out.mono (by omega))
      have HB0 : Aside (Below w.heap.size w wr) := B0
      clear B0
      by_cases hlt : kk < gn
      · have hltz : (kk : Int) < (gn : Int) := by omega
        obtain ⟨ad, rfl, hb, h0, h1, h2⟩ := (HG.out.below HB0.out (Nat.le_refl _)).gate hlt
        obtain ⟨ad', rfl, hb', g0, g1, g2⟩ := (HH.out.below HB0.out (Nat.le_refl _)).gate hlt
        generalize hz1 : gs.getD kk default = x at h0 h1 h2
        generalize hz2 : hs.getD kk default = y at g0 g1 g2
        have HE : Aside (gs.getD kk default = x ∧ hs.getD kk default = y) := ⟨hz1, hz2⟩
        clear hz1 hz2
        have hq := gate_neq x y
        cases hxy : !gtEq x y
        all_goals rw [hxy] at hq
        · go_wp2_with fail
          go_quiet (fail)
          go_wp2
          go_roundg (gn - (kk + 1))
          case measure => omega
          case rel =>
            refine ⟨kk + 1, by omega, by omega, by go_num, (show Below _ _ _ from below_drewN BW.out _), (show Aside _ from fun j hj => ?_)⟩
            by_cases e : j = kk
            · subst e
              rw [HE.out.1, HE.out.2]
              exact (gtEq_iff x y).1 (by simpa using hxy)
            · exact AA.out j (by omega)
        · go_wp2_with fail
          go_quiet (fail)
          go_wp2
          go_ret
          refine ⟨ret_bool ?_, below_drewN HB0.out _⟩
          symm
          have hne : gs ≠ hs := by
            rintro rfl
            have := HE.out.1.symm.trans HE.out.2
            rw [(gtEq_iff x y).2 this] at hxy
            cases hxy
          simp [sameC, hne]
      · have hltz : ¬ (kk : Int) < (gn : Int) := by omega
        obtain rfl : kk = gn := by omega
        have HGS : Aside (gs = hs) := list_eq_of_getD (LG.out.trans LH.out.symm) default (fun k hk => AA.out k (by rw [LG.out] at hk; exact hk))
        go_wp2
        have BB0 := BW.out
        clear AA BW hc1 hd1 HB0
        go_loopg [6] on (fun gg s6 wr' => ∃ jj : Nat, jj ≤ on ∧ on - jj ≤ gg ∧ s6 = .int .i64 jj ∧ Aside (Below (w.heap.size + 2) ((w.alloc (.cells #[.int .i64 i, .slice GA kk gc, .slice OA on oc] 25)).alloc (.cells #[.int .i64 i, .slice GB kk hc, .slice OB on pc] 25)) wr') ∧ Aside (∀ k, k < jj → os.getD k 0 = ps.getD k 0))
        case atStart => exact ⟨0, Nat.zero_le _, by omega, rfl, BB0, fun j hj => absurd hj (Nat.not_lt_zero _)⟩
        case round =>
          rename World => wr2
          obtain ⟨jj, hjj, hg2, rfl, BW, A2⟩ := hrel
          clear BB0
          have hc2 : wr2.cell? ⟨w.heap.size, 2, none⟩ = some (.slice OA on oc) := (BW.out.cell (p := ⟨w.heap.size, 2, none⟩) (by simp)).trans (by go_cell)
          have hd2 : wr2.cell? ⟨w.heap.size + 1, 2, none⟩ = some (.slice OB on pc) := (BW.out.cell (p := ⟨w.heap.size + 1, 2, none⟩) (by simp)).trans (by go_cell)
          have B0 : Below w.heap.size w wr2 := (show Below w.heap.size w _ by go_grown).trans (BW.out.mono (by omega))
          have HB0 : Aside (Below w.heap.size w wr2) := B0
          clear B0
          by_cases hlt2 : jj < on
          · have hltz2 : (jj : Int) < (on : Int) := by omega
            obtain ⟨ad, rfl, hb, hcell⟩ := (HO.out.below HB0.out (Nat.le_refl _)).int hlt2
            obtain ⟨ad', rfl, hb', hcell'⟩ := (HP.out.below HB0.out (Nat.le_refl _)).int hlt2
            generalize h1 : os.getD jj 0 = x at hcell
            generalize h2 : ps.getD jj 0 = y at hcell'
            have HE : Aside (os.getD jj 0 = x ∧ ps.getD jj 0 = y) := ⟨h1, h2⟩
            clear h1 h2
            cases hxy : (x != y)
            · go_wp2_with fail
              go_quiet (fail)
              go_wp2
              go_roundg (on - (jj + 1))
              case measure => omega
              case rel =>
                refine ⟨jj + 1, by omega, by omega, by go_num, (show Below _ _ _ from below_drewN BW.out _), (show Aside _ from fun j hj => ?_)⟩
                by_cases e : j = jj
                · subst e
                  rw [HE.out.1, HE.out.2]
                  simpa using hxy
                · exact A2.out j (by omega)
            · go_wp2_with fail
              go_quiet (fail)
              go_wp2
              go_ret
              refine ⟨ret_bool ?_, below_drewN HB0.out _⟩
              symm
              have hne : os ≠ ps := by
                rintro rfl
                have := HE.out.1.symm.trans HE.out.2
                simp [this] at hxy
              simp [sameC, hne]
          · have hltz2 : ¬ (jj : Int) < (on : Int) := by omega
            obtain rfl : jj = on := by omega
            go_wp2
            go_ret
            refine ⟨ret_bool ?_, HB0.out⟩
            have hos : os = ps := list_eq_of_getD (LO.out.trans LP.out.symm) 0 (fun k hk => A2.out k (by rw [LO.out] at hk; exact hk))
            simp [sameC, HGS.out, hos]
  · have HK : Aside (sameC ⟨i, gs, os⟩ ⟨j, hs, ps⟩ = false) := by
      show _ = _
      rw [Bool.eq_false_iff]
      intro hh
      simp only [sameC, Bool.and_eq_true, beq_iff_eq, decide_eq_true_eq] at hh
      obtain ⟨rfl, rfl, rfl⟩ := hh
      exact hok ⟨rfl, LG.out.symm.trans LH.out, LO.out.symm.trans LP.out⟩
    have hok' : ¬ ((i = j ∧ (gn : Int) = hn) ∧ (on : Int) = pn) := by omega
    clear hok
    go_enter Try.func11, Try.ntmps11
    go_wp2
    go_ways
    all_goals first
      | (go_ret; rw [HK.out]; exact ⟨rfl, by go_grown⟩)
      | (exfalso; go_light; simp only [bne_iff_ne, bne_eq_false_iff_eq, ne_eq] at *; omega)
end Go.Proofs.Ytamijjpnklbgnaa
