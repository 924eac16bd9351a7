/-
  not, either and xor of package optimize, walked.
-/
import Derived.Test.YtamijjpnklbgnaaZIs
import Derived.Deep.Cut
namespace Go.Proofs.Ytamijjpnklbgnaa
open Go.RowKit
set_option linter.unusedSimpArgs false
set_option linter.unusedVariables false
set_option maxRecDepth 100000 in
set_option maxHeartbeats 4000000 in
theorem notO_any (B b : Nat) (n : Int) (s : Wk) (a : Int) (w : World) (h : WkAt w B b n s) (hB : B ≤ w.heap.size) (hn : 0 ≤ n ∧ n ≤ 1000) (hg : s.gates.length ≤ 20000) (ht : s.to.length ≤ 30000) (ha : 0 ≤ a ∧ a < n + s.gates.length) :
    Calls Try.prog 35 #[.pointer (some ⟨b, 0, none⟩), .int .i64 a] w (fun e w' => e = .returned (.tuple #[]) ∧ WkAt w' B b n (addW n s (notF n s.gates a)) ∧ WFr B w w') := by
  have HW : Hid (WkAt w B b n s) := h
  obtain ⟨GA, gc, TA, tc, hr, hog, _, hBb⟩ := h.op
  have RL : Hid (Row w b 69 [.int .i64 n, .slice GA s.gates.length gc, .slice TA s.to.length tc]) := hr
  have HG : Hid (Rd w w.heap.size 3 GA s.gates.length (gatesCells s.gates)) := Rd.of_own hog
  clear hr hog h
  obtain ⟨q0, hq0⟩ : ∃ q, isW n s.gates (a) 0 = q := ⟨_, rfl⟩
  have Hq0 : Hid (∀ _ : Unit, isW n s.gates (a) 0 = q0) := fun _ => hq0
  clear hq0
  obtain ⟨q1, hq1⟩ : ∃ q, isW n s.gates (a) 1 = q := ⟨_, rfl⟩
  have Hq1 : Hid (∀ _ : Unit, isW n s.gates (a) 1 = q1) := fun _ => hq1
  clear hq1
  obtain ⟨q2, hq2⟩ : ∃ q, isW n s.gates (a) 2 = q := ⟨_, rfl⟩
  have Hq2 : Hid (∀ _ : Unit, isW n s.gates (a) 2 = q2) := fun _ => hq2
  clear hq2
  cases q0
  · cases q1
    · cases q2
      · have HV : Hid (∀ _ : Unit, notF n s.gates a = (⟨2, a, 0⟩, -1)) := fun _ => by unfold notF; rw [Hq0.out (), Hq1.out (), Hq2.out ()]; rfl
        clear RL HG
        go_enter Try.func35, Try.ntmps35
        go_wp2_with fail
        have HC := is_any B b n s (a) 0 w (HW.out) hn hg ha.2 (by omega)
        rw [Hq0.out ()] at HC
        refine HC.mono ?_
        clear HC
        rintro e w1 ⟨rfl, hb⟩
        have B_w : Hid (Below w.heap.size w w1) := hb
        clear hb
        go_wp2_with fail
        have HC := is_any B b n s (a) 1 w1 (HW.out.below B_w.out) hn hg ha.2 (by omega)
        rw [Hq1.out ()] at HC
        refine HC.mono ?_
        clear HC
        rintro e w2 ⟨rfl, hb⟩
        have B_w : Hid (Below w.heap.size w w2) := below_on2 B_w.out hb
        have B_w1 : Hid (Below w1.heap.size w1 w2) := hb
        clear hb
        go_wp2_with fail
        have HC := is_any B b n s (a) 2 w2 (HW.out.below B_w.out) hn hg ha.2 (by omega)
        rw [Hq2.out ()] at HC
        refine HC.mono ?_
        clear HC
        rintro e w3 ⟨rfl, hb⟩
        have B_w : Hid (Below w.heap.size w w3) := below_on2 B_w.out hb
        have B_w1 : Hid (Below w1.heap.size w1 w3) := below_on2 B_w1.out hb
        have B_w2 : Hid (Below w2.heap.size w2 w3) := hb
        clear hb
        go_wp2_with fail
        refine (add_any B b n s ⟨2, a, 0⟩ (-1) w3 (HW.out.below B_w.out) (Nat.le_trans hB B_w.out.size) hn hg ht).mono ?_
        rintro e w9 ⟨rfl, hwk, hfr⟩
        have HWK : Hid (WkAt w9 B b n (addW n s (⟨2, a, 0⟩, -1))) := hwk
        have HFR : Hid (WFr B w w9) := (WFr.ofBelow B_w.out hB).trans hfr
        clear hwk hfr
        go_wp2_with fail
        go_end0
        exact ⟨rfl, by rw [HV.out ()]; exact HWK.out, HFR.out⟩
      · have hle : n ≤ a := by
          have hq := Hq2.out ()
          unfold isW at hq
          rw [Bool.and_eq_true, decide_eq_true_iff] at hq
          exact hq.1
        obtain ⟨j, rfl⟩ : ∃ j : Nat, a = n + (j : Int) := ⟨(a - n).toNat, by omega⟩
        have hj : j < s.gates.length := by omega
        obtain ⟨ad, rfl, hab, _, c1, _⟩ := HG.out.gate hj
        obtain ⟨z, hz⟩ : ∃ z, (s.gates.getD j default).a = z := ⟨_, rfl⟩
        rw [hz] at c1
        have HV : Hid (∀ _ : Unit, notF n s.gates (n + (j : Int)) = (⟨2, n + (j : Int), 0⟩, z)) := fun _ => by unfold notF; rw [Hq0.out (), Hq1.out (), Hq2.out (), argW_at, hz]; rfl
        have HC1 : Hid (∀ W9, Below w.heap.size w W9 → W9.cell? ⟨(ad.add (j * 3)).block, (ad.add (j * 3)).off + 1, none⟩ = some (.int .i64 z)) := fun W9 h9 => (h9.cell (by show (ad.add (j * 3)).block < _; rw [add_block]; exact hab)).trans c1
        have hi1 : (j : Int) < (s.gates.length : Int) := by omega
        have hw1 : IntKind.i64.wrap (n + (j : Int) - n) = (j : Int) := by
          rw [show n + (j : Int) - n = (j : Int) by omega]
          exact IntWalk.i64_in _ (by omega)
        clear c1 hz hab HG hle
        go_enter Try.func35, Try.ntmps35
        go_wp2_with fail
        have HC := is_any B b n s (n + (j : Int)) 0 w (HW.out) hn hg ha.2 (by omega)
        rw [Hq0.out ()] at HC
        refine HC.mono ?_
        clear HC
        rintro e w1 ⟨rfl, hb⟩
        have B_w : Hid (Below w.heap.size w w1) := hb
        clear hb
        go_wp2_with fail
        have HC := is_any B b n s (n + (j : Int)) 1 w1 (HW.out.below B_w.out) hn hg ha.2 (by omega)
        rw [Hq1.out ()] at HC
        refine HC.mono ?_
        clear HC
        rintro e w2 ⟨rfl, hb⟩
        have B_w : Hid (Below w.heap.size w w2) := below_on2 B_w.out hb
        have B_w1 : Hid (Below w1.heap.size w1 w2) := hb
        clear hb
        go_wp2_with fail
        have HC := is_any B b n s (n + (j : Int)) 2 w2 (HW.out.below B_w.out) hn hg ha.2 (by omega)
        rw [Hq2.out ()] at HC
        refine HC.mono ?_
        clear HC
        rintro e w3 ⟨rfl, hb⟩
        have B_w : Hid (Below w.heap.size w w3) := below_on2 B_w.out hb
        have B_w1 : Hid (Below w1.heap.size w1 w3) := below_on2 B_w1.out hb
        have B_w2 : Hid (Below w2.heap.size w2 w3) := hb
        clear hb
        go_wp2_with fail
        refine wp_region_L (fun w' => Row w' b 69 [.int .i64 n, .slice (some ad) s.gates.length gc, .slice TA s.to.length tc] ∧ w'.cell? ⟨(ad.add (j * 3)).block, (ad.add (j * 3)).off + 1, none⟩ = some (.int .i64 z)) [16] (by kernel_rfl) (by exact ⟨Row.drew (rowCells RL.out B_w.out), HC1.out _ B_w.out.drew⟩) (fun hHeld => ?_)
        have BWd : Hid (Below w.heap.size w (World.drew w3)) := B_w.out.drew
        clear B_w B_w1 B_w2
        revert hHeld BWd
        generalize World.drew w3 = wQ
        intro hHeld B_w
        refine restL_pure (i := 0) (v := ?va1) rfl (by kernel_rfl) (by kernel_rfl) (by kernel_rfl) (fun _ _ _ h => h) (Or.inl ⟨by rfl, ?ya1⟩) ?ra1
        case ya1 => intro w' hSw; clear hSw; go_simp; try (with_reducible rfl)
        go_simp
        refine restL_pure (i := 1) (v := ?va2) rfl (by kernel_rfl) (by kernel_rfl) (by kernel_rfl) (fun _ _ _ h => h) (Or.inl ⟨by rfl, ?ya2⟩) ?ra2
        case ya2 => intro w' hSw; clear hSw; go_simp; try (with_reducible rfl)
        go_simp
        refine restL_pure (i := 2) (v := ?va3) rfl (by kernel_rfl) (by kernel_rfl) (by kernel_rfl) (fun _ _ _ h => h) (Or.inl ⟨by rfl, ?ya3⟩) ?ra3
        case ya3 => intro w' hSw; clear hSw; go_simp; try (with_reducible rfl)
        go_simp
        refine restL_pure (i := 3) (v := ?va4) rfl (by kernel_rfl) (by kernel_rfl) (by kernel_rfl) (fun _ _ _ h => h) (Or.inl ⟨by rfl, ?ya4⟩) ?ra4
        case ya4 => intro w' hSw; clear hSw; go_simp; try (with_reducible rfl)
        go_simp
        refine restL_pure (i := 4) (v := ?va5) rfl (by kernel_rfl) (by kernel_rfl) (by kernel_rfl) (fun _ _ _ h => h) (Or.inl ⟨by rfl, ?ya5⟩) ?ra5
        case ya5 => intro w' hSw; clear hSw; go_simp; try (with_reducible rfl)
        go_simp
        refine restL_pure (i := 5) (v := ?va6) rfl (by kernel_rfl) (by kernel_rfl) (by kernel_rfl) (fun _ _ _ h => h) (Or.inl ⟨by rfl, ?ya6⟩) ?ra6
        case ya6 => intro w' hSw; clear hSw; go_simp; try (with_reducible rfl)
        go_simp
        refine restL_pure (i := 7) (v := ?va7) rfl (by kernel_rfl) (by kernel_rfl) (by kernel_rfl) (fun _ _ _ h => h) (Or.inl ⟨by rfl, ?ya7⟩) ?ra7
        case ya7 => intro w' hSw; clear hSw; go_simp; try (with_reducible rfl)
        go_simp
        refine restL_pure (i := 8) (v := ?va8) rfl (by kernel_rfl) (by kernel_rfl) (by kernel_rfl) (fun _ _ _ h => h) (Or.inl ⟨by rfl, ?ya8⟩) ?ra8
        case ya8 => intro w' hSw; clear hSw; go_simp; try (with_reducible rfl)
        go_simp
        refine restL_pure (i := 9) (v := ?va9) rfl (by kernel_rfl) (by kernel_rfl) (by kernel_rfl) (fun _ _ _ h => h) (Or.inl ⟨by rfl, ?ya9⟩) ?ra9
        case ya9 => intro w' hSw; clear hSw; go_simp; try (with_reducible rfl)
        go_simp
        refine restL_pure (i := 10) (v := ?va10) rfl (by kernel_rfl) (by kernel_rfl) (by kernel_rfl) (fun _ _ _ h => h) (Or.inl ⟨by rfl, ?ya10⟩) ?ra10
        case ya10 => intro w' hSw; clear hSw; go_simp; try (with_reducible rfl)
        go_simp
        refine restL_take (i := 6) (v := ?va11) [[16, 15, 14, 13]] rfl (by kernel_rfl) (by kernel_rfl) (by kernel_rfl) (by kernel_rfl) (fun _ _ _ h => h) (Or.inl ⟨by rfl, ?ya11⟩) hHeld ?ra11
        case ya11 =>
          intro w' hSw
          have hSh : Hid (Row w' b 69 [.int .i64 n, .slice (some ad) s.gates.length gc, .slice TA s.to.length tc]) := hSw.1
          have hSc := hSw.2
          clear hSw
          have z0 := hSh.out.cell 0
          have z1 := hSh.out.cell 1
          have z2 := hSh.out.cell 2
          have zl := hSh.out.lt
          simp only [List.getElem?_cons_zero, List.getElem?_cons_succ] at z0 z1 z2
          go_simp
          try (with_reducible rfl)
        go_simp
        refine restL_take (i := 11) (v := ?va12) [[16, 15, 14, 13, 12]] rfl (by kernel_rfl) (by kernel_rfl) (by kernel_rfl) (by kernel_rfl) (fun _ _ _ h => h) (Or.inl ⟨by rfl, ?ya12⟩) hHeld ?ra12
        case ya12 =>
          intro w' hSw
          have hSh : Hid (Row w' b 69 [.int .i64 n, .slice (some ad) s.gates.length gc, .slice TA s.to.length tc]) := hSw.1
          have hSc := hSw.2
          clear hSw
          have z0 := hSh.out.cell 0
          have z1 := hSh.out.cell 1
          have z2 := hSh.out.cell 2
          have zl := hSh.out.lt
          simp only [List.getElem?_cons_zero, List.getElem?_cons_succ] at z0 z1 z2
          go_simp
          try (with_reducible rfl)
        go_simp
        refine restL_pure (i := 12) (v := ?va13) rfl (by kernel_rfl) (by kernel_rfl) (by kernel_rfl) (fun _ _ _ h => h) (Or.inl ⟨by rfl, ?ya13⟩) ?ra13
        case ya13 => intro w' hSw; clear hSw; go_simp; try (with_reducible rfl)
        go_simp
        refine restL_take (i := 13) (v := ?va14) [[16, 15, 14]] rfl (by kernel_rfl) (by kernel_rfl) (by kernel_rfl) (by kernel_rfl) (fun _ _ _ h => h) (Or.inl ⟨by rfl, ?ya14⟩) hHeld ?ra14
        case ya14 =>
          intro w' hSw
          have hSh : Hid (Row w' b 69 [.int .i64 n, .slice (some ad) s.gates.length gc, .slice TA s.to.length tc]) := hSw.1
          have hSc := hSw.2
          clear hSw
          have z0 := hSh.out.cell 0
          have z1 := hSh.out.cell 1
          have z2 := hSh.out.cell 2
          have zl := hSh.out.lt
          simp only [List.getElem?_cons_zero, List.getElem?_cons_succ] at z0 z1 z2
          go_simp
          try (with_reducible rfl)
        go_simp
        refine restL_pure (i := 14) (v := ?va15) rfl (by kernel_rfl) (by kernel_rfl) (by kernel_rfl) (fun _ _ _ h => h) (Or.inl ⟨by rfl, ?ya15⟩) ?ra15
        case ya15 => intro w' hSw; clear hSw; go_simp; try (with_reducible rfl)
        go_simp
        refine restL_take (i := 15) (v := ?va16) [[16]] rfl (by kernel_rfl) (by kernel_rfl) (by kernel_rfl) (by kernel_rfl) (fun _ _ _ h => h) (Or.inl ⟨by rfl, ?ya16⟩) hHeld ?ra16
        case ya16 =>
          intro w' hSw
          have hSh : Hid (Row w' b 69 [.int .i64 n, .slice (some ad) s.gates.length gc, .slice TA s.to.length tc]) := hSw.1
          have hSc := hSw.2
          clear hSw
          have z0 := hSh.out.cell 0
          have z1 := hSh.out.cell 1
          have z2 := hSh.out.cell 2
          have zl := hSh.out.lt
          simp only [List.getElem?_cons_zero, List.getElem?_cons_succ] at z0 z1 z2
          go_simp
          try (with_reducible rfl)
        go_simp
        refine restL_one (i := 16) (by kernel_rfl) rfl (fun K hK => ?_)
        go_simp
        go_at_call 38
        refine (add_any B b n s ⟨2, n + (j : Int), 0⟩ z wQ (HW.out.below B_w.out) (Nat.le_trans hB B_w.out.size) hn hg ht).mono ?_
        rintro e w9 ⟨rfl, hwk, hfr⟩
        have HWK : Hid (WkAt w9 B b n (addW n s (⟨2, n + (j : Int), 0⟩, z))) := hwk
        have HFR : Hid (WFr B w w9) := (WFr.ofBelow B_w.out hB).trans hfr
        clear hwk hfr hHeld
        refine hK.out _ _ (fun h => absurd h (by decide)) (fun _ => ?_)
        clear hK K
        try go_simp
        refine restL_done (by kernel_rfl) ?_ _
        go_wp2_with fail
        go_end0
        exact ⟨rfl, by rw [HV.out ()]; exact HWK.out, HFR.out⟩
    · have HV : Hid (∀ _ : Unit, notF n s.gates a = (⟨0, 0, 0⟩, -1)) := fun _ => by unfold notF; rw [Hq0.out (), Hq1.out ()]; rfl
      clear RL HG Hq2
      go_enter Try.func35, Try.ntmps35
      go_wp2_with fail
      have HC := is_any B b n s (a) 0 w (HW.out) hn hg ha.2 (by omega)
      rw [Hq0.out ()] at HC
      refine HC.mono ?_
      clear HC
      rintro e w1 ⟨rfl, hb⟩
      have B_w : Hid (Below w.heap.size w w1) := hb
      clear hb
      go_wp2_with fail
      have HC := is_any B b n s (a) 1 w1 (HW.out.below B_w.out) hn hg ha.2 (by omega)
      rw [Hq1.out ()] at HC
      refine HC.mono ?_
      clear HC
      rintro e w2 ⟨rfl, hb⟩
      have B_w : Hid (Below w.heap.size w w2) := below_on2 B_w.out hb
      have B_w1 : Hid (Below w1.heap.size w1 w2) := hb
      clear hb
      go_wp2_with fail
      refine (add_any B b n s ⟨0, 0, 0⟩ (-1) w2 (HW.out.below B_w.out) (Nat.le_trans hB B_w.out.size) hn hg ht).mono ?_
      rintro e w9 ⟨rfl, hwk, hfr⟩
      have HWK : Hid (WkAt w9 B b n (addW n s (⟨0, 0, 0⟩, -1))) := hwk
      have HFR : Hid (WFr B w w9) := (WFr.ofBelow B_w.out hB).trans hfr
      clear hwk hfr
      go_wp2_with fail
      go_end0
      exact ⟨rfl, by rw [HV.out ()]; exact HWK.out, HFR.out⟩
  · have HV : Hid (∀ _ : Unit, notF n s.gates a = (⟨1, 0, 0⟩, -1)) := fun _ => by unfold notF; rw [Hq0.out ()]; rfl
    clear RL HG Hq1 Hq2
    go_enter Try.func35, Try.ntmps35
    go_wp2_with fail
    have HC := is_any B b n s (a) 0 w (HW.out) hn hg ha.2 (by omega)
    rw [Hq0.out ()] at HC
    refine HC.mono ?_
    clear HC
    rintro e w1 ⟨rfl, hb⟩
    have B_w : Hid (Below w.heap.size w w1) := hb
    clear hb
    go_wp2_with fail
    refine (add_any B b n s ⟨1, 0, 0⟩ (-1) w1 (HW.out.below B_w.out) (Nat.le_trans hB B_w.out.size) hn hg ht).mono ?_
    rintro e w9 ⟨rfl, hwk, hfr⟩
    have HWK : Hid (WkAt w9 B b n (addW n s (⟨1, 0, 0⟩, -1))) := hwk
    have HFR : Hid (WFr B w w9) := (WFr.ofBelow B_w.out hB).trans hfr
    clear hwk hfr
    go_wp2_with fail
    go_end0
    exact ⟨rfl, by rw [HV.out ()]; exact HWK.out, HFR.out⟩
end Go.Proofs.Ytamijjpnklbgnaa
