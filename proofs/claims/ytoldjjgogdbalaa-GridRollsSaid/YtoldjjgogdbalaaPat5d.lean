/-
  The reference's Compare and Same of patterns, walked.
-/
import Derived.Test.YtoldjjgogdbalaaPat5
namespace Go.Proofs.Ytoldjjgogdbalaa
open Go.RowKit
set_option linter.unusedSimpArgs false
set_option linter.unusedVariables false

theorem quiet_same_add {P : Program} {f : FuncId} {args : Array Value} {w : World} {a n : Nat} {v : Value}
    (h : Calls P f args (w.drewN (a + n)) fun e w' => e = .returned v ∧ w.drewN (a + n) = w') : Calls P f args (w.drewN (a + n)) fun e w'' => e = .returned v ∧ ∃ m, w'' = w.drewN (a + m) :=
  h.mono fun _ _ h2 => ⟨h2.1, n, h2.2.symm⟩
theorem gt_ext {x y : Gt} (h1 : x.a = y.a) (h2 : x.op = y.op) (h3 : x.b = y.b) : x = y := by
  cases x; cases y; simp_all
theorem gts_ext {xs ys : List Gt} (hl : xs.length = ys.length) (h : ∀ k, k < xs.length → xs.getD k default = ys.getD k default) : xs = ys := by
  apply List.ext_getElem hl
  intro k h1 h2
  have := h k h1
  simpa [List.getD_eq_getElem?_getD, List.getElem?_eq_getElem h1, List.getElem?_eq_getElem h2] using this

set_option maxRecDepth 100000 in
set_option maxHeartbeats 2000000 in
theorem rCompare_any (p q : List Gt) (A B : Option Addr) (n c m d : Nat) (w : World) (h : Rd w w.heap.size 3 A n (gatesCells p)) (h' : Rd w w.heap.size 3 B m (gatesCells q)) (hm : n ≤ maxLen) (hm' : m ≤ maxLen) :
    Calls Try.prog 38 #[.slice A n c, .slice B m d] w fun e w' => ∃ z : Int, e = .returned (.int .i64 z) ∧ (decide (z = 0) = decide (p = q)) ∧ Below w.heap.size w w' := by
  unfold maxLen at hm hm'
  have H : Hid (Rd w w.heap.size 3 A n (gatesCells p)) := h
  have H' : Hid (Rd w w.heap.size 3 B m (gatesCells q)) := h'
  have HL : Hid (p.length = n) := by have := h.1; rw [gatesCells_length] at this; show _ = _; omega
  have HM : Hid (q.length = m) := by have := h'.1; rw [gatesCells_length] at this; show _ = _; omega
  clear h h'
  go_enter Try.func38, Try.ntmps38
  go_wp2
  go_loopg [5] n (fun gg s5 wr => ∃ kk : Nat, kk ≤ n ∧ kk ≤ m ∧ n - kk ≤ gg ∧ s5 = .int .i64 kk ∧ Aside (Below w.heap.size w wr) ∧ Aside (∀ j, j < kk → p.getD j default = q.getD j default))
  case atStart => exact ⟨0, Nat.zero_le _, Nat.zero_le _, by omega, rfl, Below.refl _ _, fun j hj => absurd hj (Nat.not_lt_zero _)⟩
  case round =>
    obtain ⟨kk, hkk, hkm, hg, rfl, BW, AA⟩ := hrel
    by_cases hlt : kk < n
    · by_cases hlt' : kk < m
      · have hltz : (kk : Int) < (n : Int) := by omega
        have hltz' : (kk : Int) < (m : Int) := by omega
        obtain ⟨ad, rfl, hb, g0, g1, g2⟩ := (H.out.up BW.out).gate hlt
        obtain ⟨ad', rfl, hb', k0, k1, k2⟩ := (H'.out.up BW.out).gate hlt'
        generalize hx : p.getD kk default = x at g0 g1 g2
        generalize hy : q.getD kk default = y at k0 k1 k2
        have HX : Hid (p.getD kk default = x ∧ q.getD kk default = y) := ⟨hx, hy⟩
        clear hx hy
        have HD : Hid (x ≠ y → p ≠ q) := fun hne e => hne (by rw [← HX.out.1, ← HX.out.2, e])
        cases h1 : (x.a != y.a)
        · cases h2 : (x.op != y.op)
          · cases h3 : (x.b != y.b)
            · have HE : Hid (x = y) := gt_ext (by simpa using h1) (by simpa using h2) (by simpa using h3)
              go_wp2_with fail
              go_quiet (fail)
              go_wp2_with fail
              go_quiet (fail)
              go_wp2_with fail
              go_quiet (fail)
              go_wp2
              go_roundg (n - (kk + 1))
              case measure => omega
              case rel =>
                refine ⟨kk + 1, by omega, by omega, by omega, by go_num, (show Below _ _ _ from below_drewN BW.out _), (show Aside _ from fun j hj => ?_)⟩
                by_cases e : j = kk
                · subst e
                  rw [HX.out.1, HX.out.2, HE.out]
                · exact AA.out j (by omega)
            · have hne : x.b ≠ y.b := by simpa using h3
              have HP : Hid (p ≠ q ∧ cmpI x.b y.b ≠ 0) := ⟨HD.out (fun e => hne (by rw [e])), fun e => hne ((cmpI_zero _ _).1 e)⟩
              clear hne
              go_wp2_with fail
              go_quiet (fail)
              go_wp2_with fail
              go_quiet (fail)
              go_wp2_with fail
              go_quiet (fail)
              go_wp2_with fail
              go_quiet ((go_at_call 48; first | exact quiet_same_add (rOrder_any x.b y.b _) | exact quiet_same (rOrder_any x.b y.b _)))
              go_wp2
              go_ret
              exact ⟨_, rfl, by rw [decide_eq_false HP.out.2, decide_eq_false HP.out.1], (by repeat (first | exact BW.out | refine below_drewN ?_ _))⟩
          · have hne : x.op ≠ y.op := by simpa using h2
            have HP : Hid (p ≠ q ∧ cmpI x.op y.op ≠ 0) := ⟨HD.out (fun e => hne (by rw [e])), fun e => hne ((cmpI_zero _ _).1 e)⟩
            clear hne
            go_wp2_with fail
            go_quiet (fail)
            go_wp2_with fail
            go_quiet (fail)
            go_wp2_with fail
            go_quiet ((go_at_call 48; first | exact quiet_same_add (rOrder_any x.op y.op _) | exact quiet_same (rOrder_any x.op y.op _)))
            go_wp2
            go_ret
            exact ⟨_, rfl, by rw [decide_eq_false HP.out.2, decide_eq_false HP.out.1], (by repeat (first | exact BW.out | refine below_drewN ?_ _))⟩
        · have hne : x.a ≠ y.a := by simpa using h1
          have HP : Hid (p ≠ q ∧ cmpI x.a y.a ≠ 0) := ⟨HD.out (fun e => hne (by rw [e])), fun e => hne ((cmpI_zero _ _).1 e)⟩
          clear hne
          go_wp2_with fail
          go_quiet (fail)
          go_wp2_with fail
          go_quiet ((go_at_call 48; first | exact quiet_same_add (rOrder_any x.a y.a _) | exact quiet_same (rOrder_any x.a y.a _)))
          go_wp2
          go_ret
          exact ⟨_, rfl, by rw [decide_eq_false HP.out.2, decide_eq_false HP.out.1], (by repeat (first | exact BW.out | refine below_drewN ?_ _))⟩
      · have hltz : (kk : Int) < (n : Int) := by omega
        have hltz' : ¬ (kk : Int) < (m : Int) := by omega
        obtain rfl : kk = m := by omega
        have HP : Hid (p ≠ q ∧ cmpI n kk ≠ 0) := ⟨fun e => by have := HL.out; have := HM.out; subst e; omega, fun e => by have := (cmpI_zero _ _).1 e; omega⟩
        go_wp2_with fail
        refine (rOrder_any n kk _).mono ?_
        rintro e w1 ⟨rfl, rfl⟩
        go_wp2
        go_ret
        exact ⟨_, rfl, by rw [decide_eq_false HP.out.2, decide_eq_false HP.out.1], BW.out⟩
    · have hltz : ¬ (kk : Int) < (n : Int) := by omega
      obtain rfl : kk = n := by omega
      have HP : Hid (decide (cmpI kk m = 0) = decide (p = q)) := by
        show _ = _
        rw [decide_eq_decide, cmpI_zero]
        constructor
        · intro e
          exact gts_ext (by rw [HL.out, HM.out]; omega) (fun k hk => AA.out k (by rw [HL.out] at hk; exact hk))
        · intro e
          have h1 := HL.out
          have h2 := HM.out
          subst e
          omega
      go_wp2_with fail
      refine (rOrder_any kk m _).mono ?_
      rintro e w1 ⟨rfl, rfl⟩
      go_wp2
      go_ret
      exact ⟨_, rfl, HP.out, BW.out⟩

set_option maxHeartbeats 400000 in
theorem rPSame_any (p q : List Gt) (A B : Option Addr) (n c m d : Nat) (w : World) (h : Rd w w.heap.size 3 A n (gatesCells p)) (h' : Rd w w.heap.size 3 B m (gatesCells q)) (hm : n ≤ maxLen) (hm' : m ≤ maxLen) :
    Calls Try.prog 23 #[.slice A n c, .slice B m d] w fun e w' => e = .returned (.bool (decide (p = q))) ∧ Below w.heap.size w w' := by
  go_enter Try.func23, Try.ntmps23
  go_wp2_with fail
  refine (rCompare_any p q A B n c m d _ h h' hm hm').mono ?_
  rintro e w1 ⟨z, rfl, hz, hb⟩
  have HZ : Hid (decide (z = 0) = decide (p = q)) := hz
  have HB : Hid (Below w.heap.size w w1) := hb
  clear hz hb
  go_wp2
  go_ret
  refine ⟨ret_bool ?_, HB.out⟩
  rw [← HZ.out, Bool.eq_iff_iff]
  simp
end Go.Proofs.Ytoldjjgogdbalaa
