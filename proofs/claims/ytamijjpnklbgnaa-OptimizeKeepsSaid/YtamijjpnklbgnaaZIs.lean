/-
  is and opposite of package optimize, walked.
-/
import Derived.Test.YtamijjpnklbgnaaZMem
import Derived.BigQuiet
namespace Go.Proofs.Ytamijjpnklbgnaa
open Go.RowKit
set_option linter.unusedSimpArgs false
set_option linter.unusedVariables false
theorem isW_at (n : Int) (gs : List Gt) (k : Nat) (op : Int) : isW n gs (n + (k : Int)) op = decide ((gs.getD k default).op = op) := by
  unfold isW
  rw [show n + (k : Int) - n = (k : Int) by omega, Int.toNat_natCast, decide_eq_true (by omega : n ≤ n + (k : Int)), Bool.true_and]
theorem argW_at (n : Int) (gs : List Gt) (k : Nat) : argW n gs (n + (k : Int)) = (gs.getD k default).a := by
  unfold argW
  rw [show n + (k : Int) - n = (k : Int) by omega, Int.toNat_natCast]
theorem isW_low {n : Int} {gs : List Gt} {x op : Int} (h : ¬ n ≤ x) : isW n gs x op = false := by unfold isW; rw [decide_eq_false h, Bool.false_and]
set_option maxRecDepth 100000 in
set_option maxHeartbeats 2000000 in
theorem is_any (B b : Nat) (n : Int) (s : Wk) (x op : Int) (w : World) (h : WkAt w B b n s) (hn : 0 ≤ n ∧ n ≤ 1000) (hg : s.gates.length ≤ 20000) (hx : x < n + s.gates.length) (hx0 : -1000000 ≤ x) :
    Calls Try.prog 62 #[.pointer (some ⟨b, 0, none⟩), .int .i64 x, .int .i64 op] w fun e w' => e = .returned (.bool (isW n s.gates x op)) ∧ Below w.heap.size w w' := by
  obtain ⟨GA, gc, TA, tc, hr, ho, ht1, hBb⟩ := h.op
  have RL : Hid (Row w b 69 [.int .i64 n, .slice GA s.gates.length gc, .slice TA s.to.length tc]) := hr
  clear hr ht1 h
  have k0 := RL.out.cell 0
  have k1 := RL.out.cell 1
  have k2 := RL.out.cell 2
  have kl := RL.out.lt
  simp only [List.getElem?_cons_zero, List.getElem?_cons_succ] at k0 k1 k2
  by_cases hle : n ≤ x
  · obtain ⟨j, rfl⟩ : ∃ j : Nat, x = n + (j : Int) := ⟨(x - n).toNat, by omega⟩
    have hj : j < s.gates.length := by omega
    obtain ⟨ad, rfl, hab, c0, _, _⟩ := (Rd.of_own ho).gate hj
    have HV : Hid (∀ _ : Unit, isW n s.gates (n + (j : Int)) op = decide ((s.gates.getD j default).op = op)) := fun _ => isW_at _ _ _ _
    generalize (s.gates.getD j default).op = z at c0 HV
    generalize s.gates.length = gn at hj hg k1
    have hd : decide (n ≤ n + (j : Int)) = true := decide_eq_true hle
    have hi1 : (j : Int) < (gn : Int) := by omega
    have hw1 : IntKind.i64.wrap (n + (j : Int) - n) = (j : Int) := by
      rw [show n + (j : Int) - n = (j : Int) by omega]
      exact IntWalk.i64_in _ (by omega)
    clear hx hle ho
    go_enter Try.func62, Try.ntmps62
    go_wp2_with fail
    go_quiet (fail)
    go_wp2_with fail
    go_ret
    exact ⟨ret_bool (by rw [HV.out ()]; first | rfl | (simp; done) | (rw [Bool.eq_iff_iff]; simp; omega)), below_drewN (Below.refl _ _) _⟩
  · have HV : Hid (∀ _ : Unit, isW n s.gates x op = false) := fun _ => isW_low hle
    have hd : decide (n ≤ x) = false := decide_eq_false hle
    clear hx ho
    go_enter Try.func62, Try.ntmps62
    go_wp2_with fail
    go_quiet (fail)
    go_wp2_with fail
    go_ret
    exact ⟨ret_bool (by rw [HV.out ()]), below_drewN (Below.refl _ _) _⟩
set_option maxRecDepth 100000 in
set_option maxHeartbeats 2000000 in
theorem neg_any (B b pb : Nat) (n : Int) (s : Wk) (x y : Int) (w : World) (h : WkAt w B b n s) (hP : Row w pb 52 [.pointer (some ⟨b, 0, none⟩)]) (hn : 0 ≤ n ∧ n ≤ 1000) (hg : s.gates.length ≤ 20000) (hx : x < n + s.gates.length) (hx0 : -1000000 ≤ x) :
    Calls Try.prog 73 #[.int .i64 x, .int .i64 y, .pointer (some ⟨pb, 0, none⟩)] w fun e w' => e = .returned (.bool (negW n s.gates x y)) ∧ Below w.heap.size w w' := by
  obtain ⟨GA, gc, TA, tc, hr, ho, ht1, hBb⟩ := h.op
  have HW : Hid (WkAt w B b n s) := h
  have RL : Hid (Row w b 69 [.int .i64 n, .slice GA s.gates.length gc, .slice TA s.to.length tc]) := hr
  have RP : Hid (Row w pb 52 [.pointer (some ⟨b, 0, none⟩)]) := hP
  clear hr ht1 h hP
  obtain ⟨q, hq⟩ : ∃ q, isW n s.gates x 2 = q := ⟨_, rfl⟩
  have HIS : Hid (∀ _ : Unit, isW n s.gates x 2 = q) := fun _ => hq
  cases q
  · have HV : Hid (∀ _ : Unit, negW n s.gates x y = false) := fun _ => by unfold negW; rw [hq, Bool.false_and]
    clear hq ho
    go_enter Try.func73, Try.ntmps73
    go_wp2_with fail
    have hu : undef = Value.tuple #[] := rfl
    refine wp_region_L (fun w' => Row w' (b) 69 [.int .i64 n, .slice GA s.gates.length gc, .slice TA s.to.length tc] ∧ Row w' (pb) 52 [.pointer (some ⟨b, 0, none⟩)]) [] (by kernel_rfl) (by exact ⟨Row.drew RL.out, Row.drew RP.out⟩) (fun hHeld => ?_)
    have B_w : Hid (Below w.heap.size w (World.drew w)) := (Below.refl _ _).drew
    revert hHeld B_w
    generalize World.drew w = wq
    intro hHeld B_w
    refine restL_pure (i := 1) (v := ?va1) rfl (by kernel_rfl) (by kernel_rfl) (by kernel_rfl) (fun _ _ _ h => h) (Or.inl ⟨by rfl, ?ya1⟩) ?ra1
    case ya1 => intro w' hSw; clear hSw; go_simp; try (with_reducible rfl)
    go_simp
    refine restL_take (i := 0) (v := ?va2) [] rfl (by kernel_rfl) (by kernel_rfl) (by kernel_rfl) (by kernel_rfl) (fun _ _ _ h => h) (Or.inl ⟨by rfl, ?ya2⟩) hHeld ?ra2
    case ya2 =>
      intro w' hSw
      obtain ⟨hS0, hS1⟩ := hSw
      have hT0 : Hid (Row w' (b) 69 [.int .i64 n, .slice GA s.gates.length gc, .slice TA s.to.length tc]) := hS0
      clear hS0
      have z0_0 := hT0.out.cell 0
      have z0_1 := hT0.out.cell 1
      have z0_2 := hT0.out.cell 2
      have z0_l := hT0.out.lt
      simp only [List.getElem?_cons_zero, List.getElem?_cons_succ] at z0_0 z0_1 z0_2
      have hT1 : Hid (Row w' (pb) 52 [.pointer (some ⟨b, 0, none⟩)]) := hS1
      clear hS1
      have z1_0 := hT1.out.cell 0
      have z1_l := hT1.out.lt
      simp only [List.getElem?_cons_zero, List.getElem?_cons_succ] at z1_0
      go_simp
      try (with_reducible rfl)
    go_simp
    refine restL_one (i := 2) (by kernel_rfl) rfl (fun K hK => ?_)
    go_simp
    go_at_call 62
    have HC := is_any B b n s x 2 wq ((HW.out.below B_w.out)) hn hg hx hx0
    rw [HIS.out ()] at HC
    refine HC.mono ?_
    clear HC
    rintro e w1 ⟨rfl, hb⟩
    have B_w : Hid (Below w.heap.size w w1) := below_on2 B_w.out hb
    have B_wq : Hid (Below wq.heap.size wq w1) := hb
    clear hb
    clear hHeld
    refine hK.out _ _ (fun _ => ?keep) (fun hHeld => ?_)
    case keep => exact ⟨(rowCells RL.out B_w.out), (rowCells RP.out B_w.out)⟩
    have hHeld := hHeld rfl
    clear hK K
    try go_simp
    refine restL_pure (i := 3) (v := ?va3) rfl (by kernel_rfl) (by kernel_rfl) (by kernel_rfl) (fun _ _ _ h => h) (Or.inl ⟨by rfl, ?ya3⟩) ?ra3
    case ya3 => intro w' hSw; clear hSw; go_simp; try (with_reducible rfl)
    go_simp
    refine restL_pure (i := 8) (v := undef) rfl (by kernel_rfl) (by kernel_rfl) (by kernel_rfl) (fun _ _ _ h => h) (Or.inr ⟨by go_simp, rfl⟩) ?_
    go_simp
    refine restL_pure (i := 17) (v := undef) rfl (by kernel_rfl) (by kernel_rfl) (by kernel_rfl) (fun _ _ _ h => h) (Or.inr ⟨by go_simp, rfl⟩) ?_
    go_simp
    refine restL_take (i := 4) (v := undef) [] rfl (by kernel_rfl) (by kernel_rfl) (by kernel_rfl) (by kernel_rfl) (fun _ _ _ h => h) (Or.inr ⟨by go_simp, rfl⟩) hHeld ?_
    go_simp
    refine restL_pure (i := 5) (v := undef) rfl (by kernel_rfl) (by kernel_rfl) (by kernel_rfl) (fun _ _ _ h => h) (Or.inr ⟨by go_simp, rfl⟩) ?_
    go_simp
    refine restL_pure (i := 6) (v := undef) rfl (by kernel_rfl) (by kernel_rfl) (by kernel_rfl) (fun _ _ _ h => h) (Or.inr ⟨by go_simp, rfl⟩) ?_
    go_simp
    refine restL_take (i := 7) (v := undef) [] rfl (by kernel_rfl) (by kernel_rfl) (by kernel_rfl) (by kernel_rfl) (fun _ _ _ h => h) (Or.inr ⟨by go_simp, rfl⟩) hHeld ?_
    go_simp
    refine restL_take (i := 9) (v := undef) [] rfl (by kernel_rfl) (by kernel_rfl) (by kernel_rfl) (by kernel_rfl) (fun _ _ _ h => h) (Or.inr ⟨by go_simp, rfl⟩) hHeld ?_
    go_simp
    refine restL_pure (i := 10) (v := undef) rfl (by kernel_rfl) (by kernel_rfl) (by kernel_rfl) (fun _ _ _ h => h) (Or.inr ⟨by go_simp, rfl⟩) ?_
    go_simp
    refine restL_pure (i := 11) (v := undef) rfl (by kernel_rfl) (by kernel_rfl) (by kernel_rfl) (fun _ _ _ h => h) (Or.inr ⟨by go_simp, rfl⟩) ?_
    go_simp
    refine restL_take (i := 12) (v := undef) [] rfl (by kernel_rfl) (by kernel_rfl) (by kernel_rfl) (by kernel_rfl) (fun _ _ _ h => h) (Or.inr ⟨by go_simp, rfl⟩) hHeld ?_
    go_simp
    refine restL_pure (i := 13) (v := undef) rfl (by kernel_rfl) (by kernel_rfl) (by kernel_rfl) (fun _ _ _ h => h) (Or.inr ⟨by go_simp, rfl⟩) ?_
    go_simp
    refine restL_take (i := 14) (v := undef) [] rfl (by kernel_rfl) (by kernel_rfl) (by kernel_rfl) (by kernel_rfl) (fun _ _ _ h => h) (Or.inr ⟨by go_simp, rfl⟩) hHeld ?_
    go_simp
    refine restL_pure (i := 15) (v := undef) rfl (by kernel_rfl) (by kernel_rfl) (by kernel_rfl) (fun _ _ _ h => h) (Or.inr ⟨by go_simp, rfl⟩) ?_
    go_simp
    refine restL_take (i := 16) (v := undef) [] rfl (by kernel_rfl) (by kernel_rfl) (by kernel_rfl) (by kernel_rfl) (fun _ _ _ h => h) (Or.inr ⟨by go_simp, rfl⟩) hHeld ?_
    go_simp
    refine restL_pure (i := 18) (v := undef) rfl (by kernel_rfl) (by kernel_rfl) (by kernel_rfl) (fun _ _ _ h => h) (Or.inr ⟨by go_simp, rfl⟩) ?_
    go_simp
    refine restL_pure (i := 19) (v := ?va19) rfl (by kernel_rfl) (by kernel_rfl) (by kernel_rfl) (fun _ _ _ h => h) (Or.inl ⟨by rfl, ?ya19⟩) ?ra19
    case ya19 => intro w' hSw; clear hSw; go_simp; try (with_reducible rfl)
    go_simp
    refine restL_pure (i := 20) (v := ?va20) rfl (by kernel_rfl) (by kernel_rfl) (by kernel_rfl) (fun _ _ _ h => h) (Or.inl ⟨by rfl, ?ya20⟩) ?ra20
    case ya20 => intro w' hSw; clear hSw; go_simp; try (with_reducible rfl)
    go_simp
    refine restL_done (by kernel_rfl) ?_ _
    clear hu
    go_wp2_with fail
    go_ret
    exact ⟨ret_bool (by rw [HV.out ()]), B_w.out⟩
  · have hle : n ≤ x := by
      unfold isW at hq
      rw [Bool.and_eq_true, decide_eq_true_iff] at hq
      exact hq.1
    obtain ⟨j, rfl⟩ : ∃ j : Nat, x = n + (j : Int) := ⟨(x - n).toNat, by omega⟩
    have hj : j < s.gates.length := by omega
    obtain ⟨ad, rfl, hab, _, c1, _⟩ := (Rd.of_own ho).gate hj
    have HV : Hid (∀ _ : Unit, negW n s.gates (n + (j : Int)) y = decide ((s.gates.getD j default).a = y)) := fun _ => by unfold negW; rw [hq, Bool.true_and, argW_at]
    have HC1 : Hid (∀ W9, Below w.heap.size w W9 → W9.cell? ⟨(ad.add (j * 3)).block, (ad.add (j * 3)).off + 1, none⟩ = some (.int .i64 (s.gates.getD j default).a)) := fun W9 h9 => (h9.cell (by show (ad.add (j * 3)).block < _; rw [add_block]; exact hab)).trans c1
    have hi1 : (j : Int) < (s.gates.length : Int) := by omega
    have hw1 : IntKind.i64.wrap (n + (j : Int) - n) = (j : Int) := by
      rw [show n + (j : Int) - n = (j : Int) by omega]
      exact IntWalk.i64_in _ (by omega)
    clear hq ho c1 hle
    generalize hz : (s.gates.getD j default).a = z at HC1 HV
    clear hz
    go_enter Try.func73, Try.ntmps73
    go_wp2_with fail
    refine wp_region_L (fun w' => Row w' (b) 69 [.int .i64 n, .slice (some ad) s.gates.length gc, .slice TA s.to.length tc] ∧ Row w' (pb) 52 [.pointer (some ⟨b, 0, none⟩)] ∧ w'.cell? ⟨(ad.add (j * 3)).block, (ad.add (j * 3)).off + 1, none⟩ = some (.int .i64 z)) [] (by kernel_rfl) (by exact ⟨Row.drew RL.out, Row.drew RP.out, HC1.out _ (by first | exact (Below.refl _ _) | exact (Below.refl _ _).drew)⟩) (fun hHeld => ?_)
    have B_w : Hid (Below w.heap.size w (World.drew w)) := (Below.refl _ _).drew
    revert hHeld B_w
    generalize World.drew w = wq
    intro hHeld B_w
    refine restL_pure (i := 1) (v := ?vb1) rfl (by kernel_rfl) (by kernel_rfl) (by kernel_rfl) (fun _ _ _ h => h) (Or.inl ⟨by rfl, ?yb1⟩) ?rb1
    case yb1 => intro w' hSw; clear hSw; go_simp; try (with_reducible rfl)
    go_simp
    refine restL_take (i := 0) (v := ?vb2) [] rfl (by kernel_rfl) (by kernel_rfl) (by kernel_rfl) (by kernel_rfl) (fun _ _ _ h => h) (Or.inl ⟨by rfl, ?yb2⟩) hHeld ?rb2
    case yb2 =>
      intro w' hSw
      obtain ⟨hS0, hS1, hF0⟩ := hSw
      have hT0 : Hid (Row w' (b) 69 [.int .i64 n, .slice (some ad) s.gates.length gc, .slice TA s.to.length tc]) := hS0
      clear hS0
      have z0_0 := hT0.out.cell 0
      have z0_1 := hT0.out.cell 1
      have z0_2 := hT0.out.cell 2
      have z0_l := hT0.out.lt
      simp only [List.getElem?_cons_zero, List.getElem?_cons_succ] at z0_0 z0_1 z0_2
      have hT1 : Hid (Row w' (pb) 52 [.pointer (some ⟨b, 0, none⟩)]) := hS1
      clear hS1
      have z1_0 := hT1.out.cell 0
      have z1_l := hT1.out.lt
      simp only [List.getElem?_cons_zero, List.getElem?_cons_succ] at z1_0
      go_simp
      try (with_reducible rfl)
    go_simp
    refine restL_one (i := 2) (by kernel_rfl) rfl (fun K hK => ?_)
    go_simp
    go_at_call 62
    have HC := is_any B b n s (n + (j : Int)) 2 wq ((HW.out.below B_w.out)) hn hg hx hx0
    rw [HIS.out ()] at HC
    refine HC.mono ?_
    clear HC
    rintro e w1 ⟨rfl, hb⟩
    have B_w : Hid (Below w.heap.size w w1) := below_on2 B_w.out hb
    have B_wq : Hid (Below wq.heap.size wq w1) := hb
    clear hb
    clear hHeld
    refine hK.out _ _ (fun _ => ?keep) (fun hHeld => ?_)
    case keep => exact ⟨(rowCells RL.out B_w.out), (rowCells RP.out B_w.out), HC1.out _ (by first | exact B_w.out | exact (Below.refl _ _).drew)⟩
    have hHeld := hHeld rfl
    clear hK K
    try go_simp
    refine restL_pure (i := 3) (v := ?vb3) rfl (by kernel_rfl) (by kernel_rfl) (by kernel_rfl) (fun _ _ _ h => h) (Or.inl ⟨by rfl, ?yb3⟩) ?rb3
    case yb3 => intro w' hSw; clear hSw; go_simp; try (with_reducible rfl)
    go_simp
    refine restL_pure (i := 8) (v := ?vb4) rfl (by kernel_rfl) (by kernel_rfl) (by kernel_rfl) (fun _ _ _ h => h) (Or.inl ⟨by first | rfl | (go_simp; done), ?yb4⟩) ?rb4
    case yb4 => intro w' hSw; clear hSw; go_simp; try (with_reducible rfl)
    go_simp
    refine restL_pure (i := 17) (v := ?vb5) rfl (by kernel_rfl) (by kernel_rfl) (by kernel_rfl) (fun _ _ _ h => h) (Or.inl ⟨by first | rfl | (go_simp; done), ?yb5⟩) ?rb5
    case yb5 => intro w' hSw; clear hSw; go_simp; try (with_reducible rfl)
    go_simp
    refine restL_take (i := 4) (v := ?vb6) [] rfl (by kernel_rfl) (by kernel_rfl) (by kernel_rfl) (by kernel_rfl) (fun _ _ _ h => h) (Or.inl ⟨by first | rfl | (go_simp; done), ?yb6⟩) hHeld ?rb6
    case yb6 =>
      intro w' hSw
      obtain ⟨hS0, hS1, hF0⟩ := hSw
      have hT0 : Hid (Row w' (b) 69 [.int .i64 n, .slice (some ad) s.gates.length gc, .slice TA s.to.length tc]) := hS0
      clear hS0
      have z0_0 := hT0.out.cell 0
      have z0_1 := hT0.out.cell 1
      have z0_2 := hT0.out.cell 2
      have z0_l := hT0.out.lt
      simp only [List.getElem?_cons_zero, List.getElem?_cons_succ] at z0_0 z0_1 z0_2
      have hT1 : Hid (Row w' (pb) 52 [.pointer (some ⟨b, 0, none⟩)]) := hS1
      clear hS1
      have z1_0 := hT1.out.cell 0
      have z1_l := hT1.out.lt
      simp only [List.getElem?_cons_zero, List.getElem?_cons_succ] at z1_0
      go_simp
      try (with_reducible rfl)
    go_simp
    refine restL_pure (i := 5) (v := ?vb7) rfl (by kernel_rfl) (by kernel_rfl) (by kernel_rfl) (fun _ _ _ h => h) (Or.inl ⟨by first | rfl | (go_simp; done), ?yb7⟩) ?rb7
    case yb7 => intro w' hSw; clear hSw; go_simp; try (with_reducible rfl)
    go_simp
    refine restL_pure (i := 6) (v := ?vb8) rfl (by kernel_rfl) (by kernel_rfl) (by kernel_rfl) (fun _ _ _ h => h) (Or.inl ⟨by first | rfl | (go_simp; done), ?yb8⟩) ?rb8
    case yb8 => intro w' hSw; clear hSw; go_simp; try (with_reducible rfl)
    go_simp
    refine restL_take (i := 7) (v := ?vb9) [] rfl (by kernel_rfl) (by kernel_rfl) (by kernel_rfl) (by kernel_rfl) (fun _ _ _ h => h) (Or.inl ⟨by first | rfl | (go_simp; done), ?yb9⟩) hHeld ?rb9
    case yb9 =>
      intro w' hSw
      obtain ⟨hS0, hS1, hF0⟩ := hSw
      have hT0 : Hid (Row w' (b) 69 [.int .i64 n, .slice (some ad) s.gates.length gc, .slice TA s.to.length tc]) := hS0
      clear hS0
      have z0_0 := hT0.out.cell 0
      have z0_1 := hT0.out.cell 1
      have z0_2 := hT0.out.cell 2
      have z0_l := hT0.out.lt
      simp only [List.getElem?_cons_zero, List.getElem?_cons_succ] at z0_0 z0_1 z0_2
      have hT1 : Hid (Row w' (pb) 52 [.pointer (some ⟨b, 0, none⟩)]) := hS1
      clear hS1
      have z1_0 := hT1.out.cell 0
      have z1_l := hT1.out.lt
      simp only [List.getElem?_cons_zero, List.getElem?_cons_succ] at z1_0
      go_simp
      try (with_reducible rfl)
    go_simp
    refine restL_take (i := 9) (v := ?vb10) [] rfl (by kernel_rfl) (by kernel_rfl) (by kernel_rfl) (by kernel_rfl) (fun _ _ _ h => h) (Or.inl ⟨by first | rfl | (go_simp; done), ?yb10⟩) hHeld ?rb10
    case yb10 =>
      intro w' hSw
      obtain ⟨hS0, hS1, hF0⟩ := hSw
      have hT0 : Hid (Row w' (b) 69 [.int .i64 n, .slice (some ad) s.gates.length gc, .slice TA s.to.length tc]) := hS0
      clear hS0
      have z0_0 := hT0.out.cell 0
      have z0_1 := hT0.out.cell 1
      have z0_2 := hT0.out.cell 2
      have z0_l := hT0.out.lt
      simp only [List.getElem?_cons_zero, List.getElem?_cons_succ] at z0_0 z0_1 z0_2
      have hT1 : Hid (Row w' (pb) 52 [.pointer (some ⟨b, 0, none⟩)]) := hS1
      clear hS1
      have z1_0 := hT1.out.cell 0
      have z1_l := hT1.out.lt
      simp only [List.getElem?_cons_zero, List.getElem?_cons_succ] at z1_0
      go_simp
      try (with_reducible rfl)
    go_simp
    refine restL_pure (i := 10) (v := ?vb11) rfl (by kernel_rfl) (by kernel_rfl) (by kernel_rfl) (fun _ _ _ h => h) (Or.inl ⟨by first | rfl | (go_simp; done), ?yb11⟩) ?rb11
    case yb11 => intro w' hSw; clear hSw; go_simp; try (with_reducible rfl)
    go_simp
    refine restL_pure (i := 11) (v := ?vb12) rfl (by kernel_rfl) (by kernel_rfl) (by kernel_rfl) (fun _ _ _ h => h) (Or.inl ⟨by first | rfl | (go_simp; done), ?yb12⟩) ?rb12
    case yb12 => intro w' hSw; clear hSw; go_simp; try (with_reducible rfl)
    go_simp
    refine restL_take (i := 12) (v := ?vb13) [] rfl (by kernel_rfl) (by kernel_rfl) (by kernel_rfl) (by kernel_rfl) (fun _ _ _ h => h) (Or.inl ⟨by first | rfl | (go_simp; done), ?yb13⟩) hHeld ?rb13
    case yb13 =>
      intro w' hSw
      obtain ⟨hS0, hS1, hF0⟩ := hSw
      have hT0 : Hid (Row w' (b) 69 [.int .i64 n, .slice (some ad) s.gates.length gc, .slice TA s.to.length tc]) := hS0
      clear hS0
      have z0_0 := hT0.out.cell 0
      have z0_1 := hT0.out.cell 1
      have z0_2 := hT0.out.cell 2
      have z0_l := hT0.out.lt
      simp only [List.getElem?_cons_zero, List.getElem?_cons_succ] at z0_0 z0_1 z0_2
      have hT1 : Hid (Row w' (pb) 52 [.pointer (some ⟨b, 0, none⟩)]) := hS1
      clear hS1
      have z1_0 := hT1.out.cell 0
      have z1_l := hT1.out.lt
      simp only [List.getElem?_cons_zero, List.getElem?_cons_succ] at z1_0
      go_simp
      try (with_reducible rfl)
    go_simp
    refine restL_pure (i := 13) (v := ?vb14) rfl (by kernel_rfl) (by kernel_rfl) (by kernel_rfl) (fun _ _ _ h => h) (Or.inl ⟨by first | rfl | (go_simp; done), ?yb14⟩) ?rb14
    case yb14 => intro w' hSw; clear hSw; go_simp; try (with_reducible rfl)
    go_simp
    refine restL_take (i := 14) (v := ?vb15) [] rfl (by kernel_rfl) (by kernel_rfl) (by kernel_rfl) (by kernel_rfl) (fun _ _ _ h => h) (Or.inl ⟨by first | rfl | (go_simp; done), ?yb15⟩) hHeld ?rb15
    case yb15 =>
      intro w' hSw
      obtain ⟨hS0, hS1, hF0⟩ := hSw
      have hT0 : Hid (Row w' (b) 69 [.int .i64 n, .slice (some ad) s.gates.length gc, .slice TA s.to.length tc]) := hS0
      clear hS0
      have z0_0 := hT0.out.cell 0
      have z0_1 := hT0.out.cell 1
      have z0_2 := hT0.out.cell 2
      have z0_l := hT0.out.lt
      simp only [List.getElem?_cons_zero, List.getElem?_cons_succ] at z0_0 z0_1 z0_2
      have hT1 : Hid (Row w' (pb) 52 [.pointer (some ⟨b, 0, none⟩)]) := hS1
      clear hS1
      have z1_0 := hT1.out.cell 0
      have z1_l := hT1.out.lt
      simp only [List.getElem?_cons_zero, List.getElem?_cons_succ] at z1_0
      go_simp
      try (with_reducible rfl)
    go_simp
    refine restL_pure (i := 15) (v := ?vb16) rfl (by kernel_rfl) (by kernel_rfl) (by kernel_rfl) (fun _ _ _ h => h) (Or.inl ⟨by first | rfl | (go_simp; done), ?yb16⟩) ?rb16
    case yb16 => intro w' hSw; clear hSw; go_simp; try (with_reducible rfl)
    go_simp
    refine restL_take (i := 16) (v := ?vb17) [] rfl (by kernel_rfl) (by kernel_rfl) (by kernel_rfl) (by kernel_rfl) (fun _ _ _ h => h) (Or.inl ⟨by first | rfl | (go_simp; done), ?yb17⟩) hHeld ?rb17
    case yb17 =>
      intro w' hSw
      obtain ⟨hS0, hS1, hF0⟩ := hSw
      have hT0 : Hid (Row w' (b) 69 [.int .i64 n, .slice (some ad) s.gates.length gc, .slice TA s.to.length tc]) := hS0
      clear hS0
      have z0_0 := hT0.out.cell 0
      have z0_1 := hT0.out.cell 1
      have z0_2 := hT0.out.cell 2
      have z0_l := hT0.out.lt
      simp only [List.getElem?_cons_zero, List.getElem?_cons_succ] at z0_0 z0_1 z0_2
      have hT1 : Hid (Row w' (pb) 52 [.pointer (some ⟨b, 0, none⟩)]) := hS1
      clear hS1
      have z1_0 := hT1.out.cell 0
      have z1_l := hT1.out.lt
      simp only [List.getElem?_cons_zero, List.getElem?_cons_succ] at z1_0
      go_simp
      try (with_reducible rfl)
    go_simp
    refine restL_pure (i := 18) (v := ?vb18) rfl (by kernel_rfl) (by kernel_rfl) (by kernel_rfl) (fun _ _ _ h => h) (Or.inl ⟨by first | rfl | (go_simp; done), ?yb18⟩) ?rb18
    case yb18 => intro w' hSw; clear hSw; go_simp; try (with_reducible rfl)
    go_simp
    refine restL_pure (i := 19) (v := ?vb19) rfl (by kernel_rfl) (by kernel_rfl) (by kernel_rfl) (fun _ _ _ h => h) (Or.inl ⟨by rfl, ?yb19⟩) ?rb19
    case yb19 => intro w' hSw; clear hSw; go_simp; try (with_reducible rfl)
    go_simp
    refine restL_pure (i := 20) (v := ?vb20) rfl (by kernel_rfl) (by kernel_rfl) (by kernel_rfl) (fun _ _ _ h => h) (Or.inl ⟨by rfl, ?yb20⟩) ?rb20
    case yb20 => intro w' hSw; clear hSw; go_simp; try (with_reducible rfl)
    go_simp
    refine restL_done (by kernel_rfl) ?_ _
    go_wp2_with fail
    go_ret
    exact ⟨ret_bool (by rw [HV.out ()]; first | rfl | (simp; done) | (rw [Bool.eq_iff_iff]; simp; omega)), B_w.out⟩
set_option maxRecDepth 100000 in
set_option maxHeartbeats 2000000 in
theorem opp_any (B b : Nat) (n : Int) (s : Wk) (x y : Int) (w : World) (h : WkAt w B b n s) (hn : 0 ≤ n ∧ n ≤ 1000) (hg : s.gates.length ≤ 20000) (hx : x < n + s.gates.length) (hx0 : -1000000 ≤ x) (hy : y < n + s.gates.length) (hy0 : -1000000 ≤ y) :
    Calls Try.prog 63 #[.pointer (some ⟨b, 0, none⟩), .int .i64 x, .int .i64 y] w fun e w' => e = .returned (.bool (oppW n s.gates x y)) ∧ Below w.heap.size w w' := by
  have HW : Hid (WkAt w B b n s) := h
  clear h
  go_enter Try.func63, Try.ntmps63
  go_wp2_with fail
  have RP : Hid (Row (World.alloc w (.cells #[.pointer (some ⟨b, 0, none⟩)] 52)) (w.heap.size) 52 [.pointer (some ⟨b, 0, none⟩)]) := by
    have h0 := Row.new w 52 [.pointer (some ⟨b, 0, none⟩)]
    try simp only [World.size_alloc] at h0
    exact h0
  have hgr9 : Below w.heap.size w (World.alloc w (.cells #[.pointer (some ⟨b, 0, none⟩)] 52)) := by go_grown
  have B_w : Hid (Below w.heap.size w (World.alloc w (.cells #[.pointer (some ⟨b, 0, none⟩)] 52))) := hgr9
  clear hgr9
  revert RP B_w
  generalize (World.alloc w (.cells #[.pointer (some ⟨b, 0, none⟩)] 52)) = wa
  intro RP B_w
  have HC := neg_any B b w.heap.size n s x y wa (HW.out.below B_w.out) RP.out hn hg hx hx0
  obtain ⟨q, hq⟩ : ∃ q, negW n s.gates x y = q := ⟨_, rfl⟩
  rw [hq] at HC
  refine HC.mono ?_
  clear HC
  rintro e w1 ⟨rfl, hb⟩
  have B_w : Hid (Below w.heap.size w w1) := below_on2 B_w.out hb
  have B_wa : Hid (Below wa.heap.size wa w1) := hb
  clear hb
  cases q
  · have HV : Hid (∀ _ : Unit, oppW n s.gates x y = negW n s.gates y x) := fun _ => by unfold oppW; rw [hq, Bool.false_or]
    clear hq
    go_wp2_with fail
    have HC := neg_any B b w.heap.size n s y x w1 (HW.out.below B_w.out) (rowCells RP.out B_wa.out) hn hg hy hy0
    refine HC.mono ?_
    clear HC
    rintro e w2 ⟨rfl, hb⟩
    have B_w : Hid (Below w.heap.size w w2) := below_on2 B_w.out hb
    have B_wa : Hid (Below wa.heap.size wa w2) := below_on2 B_wa.out hb
    have B_w1 : Hid (Below w1.heap.size w1 w2) := hb
    clear hb
    go_wp2_with fail
    go_ret
    exact ⟨ret_bool (by rw [HV.out ()]), B_w.out⟩
  · have HV : Hid (∀ _ : Unit, oppW n s.gates x y = true) := fun _ => by unfold oppW; rw [hq, Bool.true_or]
    clear hq
    go_wp2_with fail
    go_ret
    exact ⟨ret_bool (by rw [HV.out ()]), B_w.out⟩
end Go.Proofs.Ytamijjpnklbgnaa
