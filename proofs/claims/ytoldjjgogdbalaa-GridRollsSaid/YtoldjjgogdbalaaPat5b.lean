/-
  pattern.order and pattern.Right, walked.
-/
import Derived.Test.YtoldjjgogdbalaaPat5
namespace Go.Proofs.Ytoldjjgogdbalaa
open Go.RowKit
set_option linter.unusedSimpArgs false
set_option linter.unusedVariables false

set_option maxRecDepth 100000 in
set_option maxHeartbeats 1000000 in
theorem order_any (a b : Gt) (w : World) : Calls Try.prog 45 #[.agg #[.int .i64 a.op, .int .i64 a.a, .int .i64 a.b], .agg #[.int .i64 b.op, .int .i64 b.a, .int .i64 b.b]] w fun e w' => e = .returned (.int .i64 (orderC a b)) ∧ Below w.heap.size w w' := by
  go_enter Try.func45, Try.ntmps45
  go_wp2_with fail
  have RA : Hid (Row (World.alloc (World.alloc w _) _) w.heap.size 34 [.int .i64 a.op, .int .i64 a.a, .int .i64 a.b]) := (Row.new w 34 [.int .i64 a.op, .int .i64 a.a, .int .i64 a.b]).alloc (.cells #[.int .i64 b.op, .int .i64 b.a, .int .i64 b.b] 34)
  have RB : Hid (Row (World.alloc (World.alloc w (.cells #[.int .i64 a.op, .int .i64 a.a, .int .i64 a.b] 34)) _) (w.heap.size + 1) 34 [.int .i64 b.op, .int .i64 b.a, .int .i64 b.b]) := rowNew1 w _ 34 [.int .i64 b.op, .int .i64 b.a, .int .i64 b.b]
  have HB : Hid (Below w.heap.size w (World.alloc (World.alloc w (.cells #[.int .i64 a.op, .int .i64 a.a, .int .i64 a.b] 34)) (.cells #[.int .i64 b.op, .int .i64 b.a, .int .i64 b.b] 34))) := by show Below _ _ _; go_grown
  revert RA RB HB
  generalize World.alloc (World.alloc w (.cells #[.int .i64 a.op, .int .i64 a.a, .int .i64 a.b] 34)) (.cells #[.int .i64 b.op, .int .i64 b.a, .int .i64 b.b] 34) = w1
  intro RA RB HB
  have HS : ∀ w', Below w1.heap.size w1 w' → w'.cell? ⟨w.heap.size, 0, none⟩ = some (.int .i64 a.op) ∧ w'.cell? ⟨w.heap.size, 1, none⟩ = some (.int .i64 a.a) ∧ w'.cell? ⟨w.heap.size, 2, none⟩ = some (.int .i64 a.b) ∧ w'.cell? ⟨w.heap.size + 1, 0, none⟩ = some (.int .i64 b.op) ∧ w'.cell? ⟨w.heap.size + 1, 1, none⟩ = some (.int .i64 b.a) ∧ w'.cell? ⟨w.heap.size + 1, 2, none⟩ = some (.int .i64 b.b) := fun w' hw => ⟨(rowCells RA.out hw).cell 0, (rowCells RA.out hw).cell 1, (rowCells RA.out hw).cell 2, (rowCells RB.out hw).cell 0, (rowCells RB.out hw).cell 1, (rowCells RB.out hw).cell 2⟩
  have HN : Hid (Below w1.heap.size w1 w1) := Below.refl _ _
  clear RA RB
  go_region_held3 (fun w' => w'.cell? ⟨w.heap.size, 0, none⟩ = some (.int .i64 a.op) ∧ w'.cell? ⟨w.heap.size, 1, none⟩ = some (.int .i64 a.a) ∧ w'.cell? ⟨w.heap.size, 2, none⟩ = some (.int .i64 a.b) ∧ w'.cell? ⟨w.heap.size + 1, 0, none⟩ = some (.int .i64 b.op) ∧ w'.cell? ⟨w.heap.size + 1, 1, none⟩ = some (.int .i64 b.a) ∧ w'.cell? ⟨w.heap.size + 1, 2, none⟩ = some (.int .i64 b.b)) (exact HS _ (by first | exact below_on2 HN.out (by go_grown) | go_grown)) (first
    | (go_at_call_of 44 (Value.agg #[.int .i64 a.op, .int .i64 a.a, .int .i64 a.b])
       refine (at_any a _).mono ?_
       rintro e w7 ⟨rfl, hb⟩
       have HN := (show Hid (Below w1.heap.size w1 w7) from below_on HN.out (by go_grown) hb)
       clear hb)
    | (go_at_call 44
       refine (at_any b _).mono ?_
       rintro e w7 ⟨rfl, hb⟩
       have HN := (show Hid (Below w1.heap.size w1 w7) from below_on HN.out (by go_grown) hb)
       clear hb)
    | (go_at_call 49
       refine (pointCompare_any a.op a.a b.op b.a _).mono ?_
       rw [show (if cmpI a.a b.a ≠ 0 then cmpI a.a b.a else cmpI a.op b.op) = orderC a b from rfl]
       rintro e w7 ⟨rfl, hb⟩
       have HN := (show Hid (Below w1.heap.size w1 w7) from below_on HN.out (by go_grown) hb)
       clear hb))
  all_goals
    go_wp2
    go_ret
    exact ⟨rfl, below_on HB.out HN.out (by go_grown)⟩

set_option maxRecDepth 100000 in
set_option maxHeartbeats 2000000 in
theorem pRight_any (p : List Gt) (A : Option Addr) (n c : Nat) (w : World) (h : Rd w w.heap.size 3 A n (gatesCells p)) (hm : n ≤ maxLen) :
    Calls Try.prog 36 #[.slice A n c] w fun e w' => e = .returned (.bool (rightP p)) ∧ Below w.heap.size w w' := by
  unfold maxLen at hm
  have H : Hid (Rd w w.heap.size 3 A n (gatesCells p)) := h
  have HL : Hid (p.length = n) := by have := h.1; rw [gatesCells_length] at this; show _ = _; omega
  clear h
  by_cases hbig : 5000 < n
  · have hr : rightP p = false := by unfold rightP; rw [decide_eq_false (by rw [HL.out]; omega)]; rfl
    rw [hr]
    go_enter Try.func36, Try.ntmps36
    go_wp2
    go_ret
    exact ⟨rfl, Below.refl _ _⟩
  go_enter Try.func36, Try.ntmps36
  go_wp2
  go_loopg [3, 10] n (fun gg _ s10 wr => ∃ kk : Nat, kk ≤ n ∧ n - kk ≤ gg ∧ s10 = .int .i64 kk ∧ Aside (Below w.heap.size w wr) ∧ Aside (∀ j, j < kk → cellOk (p.getD j default) = true ∧ (j = 0 ∨ beforeC (p.getD (j - 1) default) (p.getD j default) = true)))
  case atStart => exact ⟨0, Nat.zero_le _, by omega, rfl, Below.refl _ _, fun j hj => absurd hj (Nat.not_lt_zero _)⟩
  case round =>
    obtain ⟨kk, hkk, hg, rfl, BW, AA⟩ := hrel
    by_cases hlt : kk < n
    · have hltz : (kk : Int) < (n : Int) := by omega
      obtain ⟨ad, rfl, hb, g0, g1, g2⟩ := (H.out.up BW.out).gate hlt
      generalize hy : p.getD kk default = y at g0 g1 g2
      have HY : Hid (p.getD kk default = y) := hy
      clear hy
      go_wp2_with fail
      have RA : Hid (Row (World.alloc wr _) wr.heap.size 34 [.int .i64 y.op, .int .i64 y.a, .int .i64 y.b]) := Row.new wr 34 [.int .i64 y.op, .int .i64 y.a, .int .i64 y.b]
      have HB : Hid (Below w.heap.size w (World.alloc wr (.cells #[.int .i64 y.op, .int .i64 y.a, .int .i64 y.b] 34))) := below_on2 BW.out (by go_grown)
      have HW : Hid (Below wr.heap.size wr (World.alloc wr (.cells #[.int .i64 y.op, .int .i64 y.a, .int .i64 y.b] 34))) := by show Below _ _ _; go_grown
      revert RA HB HW
      generalize World.alloc wr (.cells #[.int .i64 y.op, .int .i64 y.a, .int .i64 y.b] 34) = w1
      intro RA HB HW
      have hu : undef = Value.tuple #[] := rfl
      have HS : ∀ w', Below w1.heap.size w1 w' → w'.cell? ⟨wr.heap.size, 0, none⟩ = some (.int .i64 y.op) ∧ w'.cell? ⟨wr.heap.size, 1, none⟩ = some (.int .i64 y.a) ∧ w'.cell? ⟨wr.heap.size, 2, none⟩ = some (.int .i64 y.b) := fun w' hw => ⟨(rowCells RA.out hw).cell 0, (rowCells RA.out hw).cell 1, (rowCells RA.out hw).cell 2⟩
      have HN : Hid (Below w1.heap.size w1 w1) := Below.refl _ _
      have hfalse : Hid (cellOk y = false → rightP p = false) := fun he => rightP_false_at p kk (by rw [HL.out]; exact hlt) (.inl (by rw [HY.out]; exact he))
      have hbox : wr.heap.size < w1.heap.size := RA.out.lt
      cases hpl : placeOk y.op y.a
      · have HF : Hid (rightP p = false) := hfalse.out (by unfold cellOk; rw [hpl]; rfl)
        clear RA
        refine wp_region_held_drew (S := fun w' => w'.cell? ⟨wr.heap.size, 0, none⟩ = some (.int .i64 y.op) ∧ w'.cell? ⟨wr.heap.size, 1, none⟩ = some (.int .i64 y.a) ∧ w'.cell? ⟨wr.heap.size, 2, none⟩ = some (.int .i64 y.b)) (by kernel_rfl) (by (try dsimp only); exact HS _ (by first | exact below_on2 HN.out (by go_grown) | go_grown)) (fun hHeld => ?_)
        refine wpAnyH_take (i := 0) (v := ?va0) rfl (by kernel_rfl) (by kernel_rfl) (by kernel_rfl) (fun _ _ _ h => h) (Or.inl ⟨by rfl, ?ya0⟩) (by assumption) ?ra0
        case ya0 => intro w' hSw; (try dsimp only at hSw); go_simp; try (with_reducible rfl)
        go_simp
        refine wpAnyH_ready (rs := [1]) (by kernel_rfl) (by simp) ?_
        refine AllReadyH.cons rfl (fun K hK => ?_) AllReadyH.nil
        go_simp
        go_at_call 44
        refine (at_any y _).mono ?_
        rintro e w7 ⟨rfl, hb⟩
        have HN := (show Hid (Below w1.heap.size w1 w7) from below_on HN.out (by go_grown) hb)
        clear hb
        refine hK.out _ _ ?_ (fun hHeld => ?_)
        · (try dsimp only); exact HS _ (by first | exact below_on2 HN.out (by go_grown) | go_grown)
        clear hK K
        try go_simp
        refine wpAnyH_ready (rs := [2]) (by kernel_rfl) (by simp) ?_
        refine AllReadyH.cons rfl (fun K hK => ?_) AllReadyH.nil
        go_simp
        go_at_call 43
        refine (placed_any y.op y.a _).mono ?_
        rw [hpl]
        rintro e w7 ⟨rfl, hb⟩
        have HN := (show Hid (Below w1.heap.size w1 w7) from below_on HN.out (by go_grown) hb)
        clear hb
        refine hK.out _ _ ?_ (fun hHeld => ?_)
        · (try dsimp only); exact HS _ (by first | exact below_on2 HN.out (by go_grown) | go_grown)
        clear hK K
        try go_simp
        refine wpAnyH_take (i := 3) (v := ?va3) rfl (by kernel_rfl) (by kernel_rfl) (by kernel_rfl) (fun _ _ _ h => h) (Or.inl ⟨by rfl, ?ya3⟩) (by assumption) ?ra3
        case ya3 => intro w' hSw; (try dsimp only at hSw); go_simp; try (with_reducible rfl)
        go_simp
        refine wpAnyH_take (i := 4) (v := ?va4) rfl (by kernel_rfl) (by kernel_rfl) (by kernel_rfl) (fun _ _ _ h => h) (Or.inl ⟨by rfl, ?ya4⟩) (by assumption) ?ra4
        case ya4 => intro w' hSw; (try dsimp only at hSw); go_simp; try (with_reducible rfl)
        go_simp
        refine wpAnyH_take (i := 5) (v := undef) rfl (by kernel_rfl) (by kernel_rfl) (by kernel_rfl) (fun _ _ _ h => h) (Or.inr ⟨by go_simp, rfl⟩) (by assumption) ?_
        go_simp
        refine wpAnyH_take (i := 6) (v := undef) rfl (by kernel_rfl) (by kernel_rfl) (by kernel_rfl) (fun _ _ _ h => h) (Or.inr ⟨by go_simp, rfl⟩) (by assumption) ?_
        go_simp
        refine wpAnyH_take (i := 7) (v := undef) rfl (by kernel_rfl) (by kernel_rfl) (by kernel_rfl) (fun _ _ _ h => h) (Or.inr ⟨by go_simp, rfl⟩) (by assumption) ?_
        go_simp
        refine wpAnyH_take (i := 8) (v := ?va8) rfl (by kernel_rfl) (by kernel_rfl) (by kernel_rfl) (fun _ _ _ h => h) (Or.inl ⟨by rfl, ?ya8⟩) (by assumption) ?ra8
        case ya8 => intro w' hSw; (try dsimp only at hSw); go_simp; try (with_reducible rfl)
        go_simp
        refine wpAnyH_take (i := 9) (v := ?va9) rfl (by kernel_rfl) (by kernel_rfl) (by kernel_rfl) (fun _ _ _ h => h) (Or.inl ⟨by rfl, ?ya9⟩) (by assumption) ?ra9
        case ya9 => intro w' hSw; (try dsimp only at hSw); go_simp; try (with_reducible rfl)
        go_simp
        refine wpAnyH_take (i := 10) (v := undef) rfl (by kernel_rfl) (by kernel_rfl) (by kernel_rfl) (fun _ _ _ h => h) (Or.inr ⟨by go_simp, rfl⟩) (by assumption) ?_
        go_simp
        refine wpAnyH_take (i := 11) (v := undef) rfl (by kernel_rfl) (by kernel_rfl) (by kernel_rfl) (fun _ _ _ h => h) (Or.inr ⟨by go_simp, rfl⟩) (by assumption) ?_
        go_simp
        refine wpAnyH_take (i := 12) (v := undef) rfl (by kernel_rfl) (by kernel_rfl) (by kernel_rfl) (fun _ _ _ h => h) (Or.inr ⟨by go_simp, rfl⟩) (by assumption) ?_
        go_simp
        refine wpAnyH_take (i := 13) (v := ?va13) rfl (by kernel_rfl) (by kernel_rfl) (by kernel_rfl) (fun _ _ _ h => h) (Or.inl ⟨by rfl, ?ya13⟩) (by assumption) ?ra13
        case ya13 => intro w' hSw; (try dsimp only at hSw); go_simp; try (with_reducible rfl)
        go_simp
        refine wpAnyH_take (i := 14) (v := ?va14) rfl (by kernel_rfl) (by kernel_rfl) (by kernel_rfl) (fun _ _ _ h => h) (Or.inl ⟨by rfl, ?ya14⟩) (by assumption) ?ra14
        case ya14 => intro w' hSw; (try dsimp only at hSw); go_simp; try (with_reducible rfl)
        go_simp
        refine wpAnyH_take (i := 15) (v := undef) rfl (by kernel_rfl) (by kernel_rfl) (by kernel_rfl) (fun _ _ _ h => h) (Or.inr ⟨by go_simp, rfl⟩) (by assumption) ?_
        go_simp
        refine wpAnyH_take (i := 16) (v := undef) rfl (by kernel_rfl) (by kernel_rfl) (by kernel_rfl) (fun _ _ _ h => h) (Or.inr ⟨by go_simp, rfl⟩) (by assumption) ?_
        go_simp
        refine wpAnyH_take (i := 17) (v := undef) rfl (by kernel_rfl) (by kernel_rfl) (by kernel_rfl) (fun _ _ _ h => h) (Or.inr ⟨by go_simp, rfl⟩) (by assumption) ?_
        go_simp
        refine wpAnyH_take (i := 18) (v := undef) rfl (by kernel_rfl) (by kernel_rfl) (by kernel_rfl) (fun _ _ _ h => h) (Or.inr ⟨by go_simp, rfl⟩) (by assumption) ?_
        go_simp
        refine wpAnyH_take (i := 19) (v := undef) rfl (by kernel_rfl) (by kernel_rfl) (by kernel_rfl) (fun _ _ _ h => h) (Or.inr ⟨by go_simp, rfl⟩) (by assumption) ?_
        go_simp
        refine wpAnyH_take (i := 20) (v := undef) rfl (by kernel_rfl) (by kernel_rfl) (by kernel_rfl) (fun _ _ _ h => h) (Or.inr ⟨by go_simp, rfl⟩) (by assumption) ?_
        go_simp
        refine wpAnyH_take (i := 21) (v := undef) rfl (by kernel_rfl) (by kernel_rfl) (by kernel_rfl) (fun _ _ _ h => h) (Or.inr ⟨by go_simp, rfl⟩) (by assumption) ?_
        go_simp
        refine wpAnyH_take (i := 22) (v := undef) rfl (by kernel_rfl) (by kernel_rfl) (by kernel_rfl) (fun _ _ _ h => h) (Or.inr ⟨by go_simp, rfl⟩) (by assumption) ?_
        go_simp
        refine wpAnyH_take (i := 23) (v := undef) rfl (by kernel_rfl) (by kernel_rfl) (by kernel_rfl) (fun _ _ _ h => h) (Or.inr ⟨by go_simp, rfl⟩) (by assumption) ?_
        go_simp
        refine wpAnyH_take (i := 24) (v := undef) rfl (by kernel_rfl) (by kernel_rfl) (by kernel_rfl) (fun _ _ _ h => h) (Or.inr ⟨by go_simp, rfl⟩) (by assumption) ?_
        go_simp
        refine wpAnyH_take (i := 25) (v := undef) rfl (by kernel_rfl) (by kernel_rfl) (by kernel_rfl) (fun _ _ _ h => h) (Or.inr ⟨by go_simp, rfl⟩) (by assumption) ?_
        go_simp
        refine wpAnyH_take (i := 26) (v := undef) rfl (by kernel_rfl) (by kernel_rfl) (by kernel_rfl) (fun _ _ _ h => h) (Or.inr ⟨by go_simp, rfl⟩) (by assumption) ?_
        go_simp
        refine wpAnyH_take (i := 27) (v := ?va27) rfl (by kernel_rfl) (by kernel_rfl) (by kernel_rfl) (fun _ _ _ h => h) (Or.inl ⟨by rfl, ?ya27⟩) (by assumption) ?ra27
        case ya27 => intro w' hSw; (try dsimp only at hSw); go_simp; try (with_reducible rfl)
        go_simp
        refine wpAnyH_done (by kernel_rfl) ?_ _
        go_wp2
        go_ret
        exact ⟨ret_bool HF.out.symm, below_on HB.out HN.out (by go_grown)⟩
      by_cases hs1 : y.b < 1
      · have HF : Hid (rightP p = false) := hfalse.out (by unfold cellOk; rw [hpl]; simp; omega)
        have hd1 : decide (y.b < 1) = true := by simpa using hs1
        clear RA
        refine wp_region_held_drew (S := fun w' => w'.cell? ⟨wr.heap.size, 0, none⟩ = some (.int .i64 y.op) ∧ w'.cell? ⟨wr.heap.size, 1, none⟩ = some (.int .i64 y.a) ∧ w'.cell? ⟨wr.heap.size, 2, none⟩ = some (.int .i64 y.b)) (by kernel_rfl) (by (try dsimp only); exact HS _ (by first | exact below_on2 HN.out (by go_grown) | go_grown)) (fun hHeld => ?_)
        refine wpAnyH_take (i := 0) (v := ?vb0) rfl (by kernel_rfl) (by kernel_rfl) (by kernel_rfl) (fun _ _ _ h => h) (Or.inl ⟨by rfl, ?yb0⟩) (by assumption) ?rb0
        case yb0 => intro w' hSw; (try dsimp only at hSw); go_simp; try (with_reducible rfl)
        go_simp
        refine wpAnyH_ready (rs := [1]) (by kernel_rfl) (by simp) ?_
        refine AllReadyH.cons rfl (fun K hK => ?_) AllReadyH.nil
        go_simp
        go_at_call 44
        refine (at_any y _).mono ?_
        rintro e w7 ⟨rfl, hb⟩
        have HN := (show Hid (Below w1.heap.size w1 w7) from below_on HN.out (by go_grown) hb)
        clear hb
        refine hK.out _ _ ?_ (fun hHeld => ?_)
        · (try dsimp only); exact HS _ (by first | exact below_on2 HN.out (by go_grown) | go_grown)
        clear hK K
        try go_simp
        refine wpAnyH_ready (rs := [2]) (by kernel_rfl) (by simp) ?_
        refine AllReadyH.cons rfl (fun K hK => ?_) AllReadyH.nil
        go_simp
        go_at_call 43
        refine (placed_any y.op y.a _).mono ?_
        rw [hpl]
        rintro e w7 ⟨rfl, hb⟩
        have HN := (show Hid (Below w1.heap.size w1 w7) from below_on HN.out (by go_grown) hb)
        clear hb
        refine hK.out _ _ ?_ (fun hHeld => ?_)
        · (try dsimp only); exact HS _ (by first | exact below_on2 HN.out (by go_grown) | go_grown)
        clear hK K
        try go_simp
        refine wpAnyH_take (i := 3) (v := ?vb3) rfl (by kernel_rfl) (by kernel_rfl) (by kernel_rfl) (fun _ _ _ h => h) (Or.inl ⟨by rfl, ?yb3⟩) (by assumption) ?rb3
        case yb3 => intro w' hSw; (try dsimp only at hSw); go_simp; try (with_reducible rfl)
        go_simp
        refine wpAnyH_take (i := 4) (v := ?vb4) rfl (by kernel_rfl) (by kernel_rfl) (by kernel_rfl) (fun _ _ _ h => h) (Or.inl ⟨by rfl, ?yb4⟩) (by assumption) ?rb4
        case yb4 => intro w' hSw; (try dsimp only at hSw); go_simp; try (with_reducible rfl)
        go_simp
        refine wpAnyH_take (i := 5) (v := ?vb5) rfl (by kernel_rfl) (by kernel_rfl) (by kernel_rfl) (fun _ _ _ h => h) (Or.inl ⟨by first | rfl | (go_simp; done), ?yb5⟩) (by assumption) ?rb5
        case yb5 => intro w' hSw; (try dsimp only at hSw); go_simp; try (with_reducible rfl)
        go_simp
        refine wpAnyH_take (i := 6) (v := ?vb6) rfl (by kernel_rfl) (by kernel_rfl) (by kernel_rfl) (fun _ _ _ h => h) (Or.inl ⟨by first | rfl | (go_simp; done), ?yb6⟩) (by assumption) ?rb6
        case yb6 => intro w' hSw; (try dsimp only at hSw); go_simp; try (with_reducible rfl)
        go_simp
        refine wpAnyH_take (i := 7) (v := ?vb7) rfl (by kernel_rfl) (by kernel_rfl) (by kernel_rfl) (fun _ _ _ h => h) (Or.inl ⟨by first | rfl | (go_simp; done), ?yb7⟩) (by assumption) ?rb7
        case yb7 => intro w' hSw; (try dsimp only at hSw); go_simp; try (with_reducible rfl)
        go_simp
        refine wpAnyH_take (i := 8) (v := ?vb8) rfl (by kernel_rfl) (by kernel_rfl) (by kernel_rfl) (fun _ _ _ h => h) (Or.inl ⟨by rfl, ?yb8⟩) (by assumption) ?rb8
        case yb8 => intro w' hSw; (try dsimp only at hSw); go_simp; try (with_reducible rfl)
        go_simp
        refine wpAnyH_take (i := 9) (v := ?vb9) rfl (by kernel_rfl) (by kernel_rfl) (by kernel_rfl) (fun _ _ _ h => h) (Or.inl ⟨by rfl, ?yb9⟩) (by assumption) ?rb9
        case yb9 => intro w' hSw; (try dsimp only at hSw); go_simp; try (with_reducible rfl)
        go_simp
        refine wpAnyH_take (i := 10) (v := undef) rfl (by kernel_rfl) (by kernel_rfl) (by kernel_rfl) (fun _ _ _ h => h) (Or.inr ⟨by go_simp, rfl⟩) (by assumption) ?_
        go_simp
        refine wpAnyH_take (i := 11) (v := undef) rfl (by kernel_rfl) (by kernel_rfl) (by kernel_rfl) (fun _ _ _ h => h) (Or.inr ⟨by go_simp, rfl⟩) (by assumption) ?_
        go_simp
        refine wpAnyH_take (i := 12) (v := undef) rfl (by kernel_rfl) (by kernel_rfl) (by kernel_rfl) (fun _ _ _ h => h) (Or.inr ⟨by go_simp, rfl⟩) (by assumption) ?_
        go_simp
        refine wpAnyH_take (i := 13) (v := ?vb13) rfl (by kernel_rfl) (by kernel_rfl) (by kernel_rfl) (fun _ _ _ h => h) (Or.inl ⟨by rfl, ?yb13⟩) (by assumption) ?rb13
        case yb13 => intro w' hSw; (try dsimp only at hSw); go_simp; try (with_reducible rfl)
        go_simp
        refine wpAnyH_take (i := 14) (v := ?vb14) rfl (by kernel_rfl) (by kernel_rfl) (by kernel_rfl) (fun _ _ _ h => h) (Or.inl ⟨by rfl, ?yb14⟩) (by assumption) ?rb14
        case yb14 => intro w' hSw; (try dsimp only at hSw); go_simp; try (with_reducible rfl)
        go_simp
        refine wpAnyH_take (i := 15) (v := undef) rfl (by kernel_rfl) (by kernel_rfl) (by kernel_rfl) (fun _ _ _ h => h) (Or.inr ⟨by go_simp, rfl⟩) (by assumption) ?_
        go_simp
        refine wpAnyH_take (i := 16) (v := undef) rfl (by kernel_rfl) (by kernel_rfl) (by kernel_rfl) (fun _ _ _ h => h) (Or.inr ⟨by go_simp, rfl⟩) (by assumption) ?_
        go_simp
        refine wpAnyH_take (i := 17) (v := undef) rfl (by kernel_rfl) (by kernel_rfl) (by kernel_rfl) (fun _ _ _ h => h) (Or.inr ⟨by go_simp, rfl⟩) (by assumption) ?_
        go_simp
        refine wpAnyH_take (i := 18) (v := undef) rfl (by kernel_rfl) (by kernel_rfl) (by kernel_rfl) (fun _ _ _ h => h) (Or.inr ⟨by go_simp, rfl⟩) (by assumption) ?_
        go_simp
        refine wpAnyH_take (i := 19) (v := undef) rfl (by kernel_rfl) (by kernel_rfl) (by kernel_rfl) (fun _ _ _ h => h) (Or.inr ⟨by go_simp, rfl⟩) (by assumption) ?_
        go_simp
        refine wpAnyH_take (i := 20) (v := undef) rfl (by kernel_rfl) (by kernel_rfl) (by kernel_rfl) (fun _ _ _ h => h) (Or.inr ⟨by go_simp, rfl⟩) (by assumption) ?_
        go_simp
        refine wpAnyH_take (i := 21) (v := undef) rfl (by kernel_rfl) (by kernel_rfl) (by kernel_rfl) (fun _ _ _ h => h) (Or.inr ⟨by go_simp, rfl⟩) (by assumption) ?_
        go_simp
        refine wpAnyH_take (i := 22) (v := undef) rfl (by kernel_rfl) (by kernel_rfl) (by kernel_rfl) (fun _ _ _ h => h) (Or.inr ⟨by go_simp, rfl⟩) (by assumption) ?_
        go_simp
        refine wpAnyH_take (i := 23) (v := undef) rfl (by kernel_rfl) (by kernel_rfl) (by kernel_rfl) (fun _ _ _ h => h) (Or.inr ⟨by go_simp, rfl⟩) (by assumption) ?_
        go_simp
        refine wpAnyH_take (i := 24) (v := undef) rfl (by kernel_rfl) (by kernel_rfl) (by kernel_rfl) (fun _ _ _ h => h) (Or.inr ⟨by go_simp, rfl⟩) (by assumption) ?_
        go_simp
        refine wpAnyH_take (i := 25) (v := undef) rfl (by kernel_rfl) (by kernel_rfl) (by kernel_rfl) (fun _ _ _ h => h) (Or.inr ⟨by go_simp, rfl⟩) (by assumption) ?_
        go_simp
        refine wpAnyH_take (i := 26) (v := undef) rfl (by kernel_rfl) (by kernel_rfl) (by kernel_rfl) (fun _ _ _ h => h) (Or.inr ⟨by go_simp, rfl⟩) (by assumption) ?_
        go_simp
        refine wpAnyH_take (i := 27) (v := ?vb27) rfl (by kernel_rfl) (by kernel_rfl) (by kernel_rfl) (fun _ _ _ h => h) (Or.inl ⟨by rfl, ?yb27⟩) (by assumption) ?rb27
        case yb27 => intro w' hSw; (try dsimp only at hSw); go_simp; try (with_reducible rfl)
        go_simp
        refine wpAnyH_done (by kernel_rfl) ?_ _
        go_wp2
        go_ret
        exact ⟨ret_bool HF.out.symm, below_on HB.out HN.out (by go_grown)⟩
      have hd1 : decide (y.b < 1) = false := by simpa using hs1
      by_cases hs2 : 8 ≤ y.b
      · have HF : Hid (rightP p = false) := hfalse.out (by unfold cellOk; rw [hpl]; simp; omega)
        have hd2 : decide (8 ≤ y.b) = true := by simpa using hs2
        clear RA
        refine wp_region_held_drew (S := fun w' => w'.cell? ⟨wr.heap.size, 0, none⟩ = some (.int .i64 y.op) ∧ w'.cell? ⟨wr.heap.size, 1, none⟩ = some (.int .i64 y.a) ∧ w'.cell? ⟨wr.heap.size, 2, none⟩ = some (.int .i64 y.b)) (by kernel_rfl) (by (try dsimp only); exact HS _ (by first | exact below_on2 HN.out (by go_grown) | go_grown)) (fun hHeld => ?_)
        refine wpAnyH_take (i := 0) (v := ?vc0) rfl (by kernel_rfl) (by kernel_rfl) (by kernel_rfl) (fun _ _ _ h => h) (Or.inl ⟨by rfl, ?yc0⟩) (by assumption) ?rc0
        case yc0 => intro w' hSw; (try dsimp only at hSw); go_simp; try (with_reducible rfl)
        go_simp
        refine wpAnyH_ready (rs := [1]) (by kernel_rfl) (by simp) ?_
        refine AllReadyH.cons rfl (fun K hK => ?_) AllReadyH.nil
        go_simp
        go_at_call 44
        refine (at_any y _).mono ?_
        rintro e w7 ⟨rfl, hb⟩
        have HN := (show Hid (Below w1.heap.size w1 w7) from below_on HN.out (by go_grown) hb)
        clear hb
        refine hK.out _ _ ?_ (fun hHeld => ?_)
        · (try dsimp only); exact HS _ (by first | exact below_on2 HN.out (by go_grown) | go_grown)
        clear hK K
        try go_simp
        refine wpAnyH_ready (rs := [2]) (by kernel_rfl) (by simp) ?_
        refine AllReadyH.cons rfl (fun K hK => ?_) AllReadyH.nil
        go_simp
        go_at_call 43
        refine (placed_any y.op y.a _).mono ?_
        rw [hpl]
        rintro e w7 ⟨rfl, hb⟩
        have HN := (show Hid (Below w1.heap.size w1 w7) from below_on HN.out (by go_grown) hb)
        clear hb
        refine hK.out _ _ ?_ (fun hHeld => ?_)
        · (try dsimp only); exact HS _ (by first | exact below_on2 HN.out (by go_grown) | go_grown)
        clear hK K
        try go_simp
        refine wpAnyH_take (i := 3) (v := ?vc3) rfl (by kernel_rfl) (by kernel_rfl) (by kernel_rfl) (fun _ _ _ h => h) (Or.inl ⟨by rfl, ?yc3⟩) (by assumption) ?rc3
        case yc3 => intro w' hSw; (try dsimp only at hSw); go_simp; try (with_reducible rfl)
        go_simp
        refine wpAnyH_take (i := 4) (v := ?vc4) rfl (by kernel_rfl) (by kernel_rfl) (by kernel_rfl) (fun _ _ _ h => h) (Or.inl ⟨by rfl, ?yc4⟩) (by assumption) ?rc4
        case yc4 => intro w' hSw; (try dsimp only at hSw); go_simp; try (with_reducible rfl)
        go_simp
        refine wpAnyH_take (i := 5) (v := ?vc5) rfl (by kernel_rfl) (by kernel_rfl) (by kernel_rfl) (fun _ _ _ h => h) (Or.inl ⟨by first | rfl | (go_simp; done), ?yc5⟩) (by assumption) ?rc5
        case yc5 => intro w' hSw; (try dsimp only at hSw); go_simp; try (with_reducible rfl)
        go_simp
        refine wpAnyH_take (i := 6) (v := ?vc6) rfl (by kernel_rfl) (by kernel_rfl) (by kernel_rfl) (fun _ _ _ h => h) (Or.inl ⟨by first | rfl | (go_simp; done), ?yc6⟩) (by assumption) ?rc6
        case yc6 => intro w' hSw; (try dsimp only at hSw); go_simp; try (with_reducible rfl)
        go_simp
        refine wpAnyH_take (i := 7) (v := ?vc7) rfl (by kernel_rfl) (by kernel_rfl) (by kernel_rfl) (fun _ _ _ h => h) (Or.inl ⟨by first | rfl | (go_simp; done), ?yc7⟩) (by assumption) ?rc7
        case yc7 => intro w' hSw; (try dsimp only at hSw); go_simp; try (with_reducible rfl)
        go_simp
        refine wpAnyH_take (i := 8) (v := ?vc8) rfl (by kernel_rfl) (by kernel_rfl) (by kernel_rfl) (fun _ _ _ h => h) (Or.inl ⟨by rfl, ?yc8⟩) (by assumption) ?rc8
        case yc8 => intro w' hSw; (try dsimp only at hSw); go_simp; try (with_reducible rfl)
        go_simp
        refine wpAnyH_take (i := 9) (v := ?vc9) rfl (by kernel_rfl) (by kernel_rfl) (by kernel_rfl) (fun _ _ _ h => h) (Or.inl ⟨by rfl, ?yc9⟩) (by assumption) ?rc9
        case yc9 => intro w' hSw; (try dsimp only at hSw); go_simp; try (with_reducible rfl)
        go_simp
        refine wpAnyH_take (i := 10) (v := ?vc10) rfl (by kernel_rfl) (by kernel_rfl) (by kernel_rfl) (fun _ _ _ h => h) (Or.inl ⟨by first | rfl | (go_simp; done), ?yc10⟩) (by assumption) ?rc10
        case yc10 => intro w' hSw; (try dsimp only at hSw); go_simp; try (with_reducible rfl)
        go_simp
        refine wpAnyH_take (i := 11) (v := ?vc11) rfl (by kernel_rfl) (by kernel_rfl) (by kernel_rfl) (fun _ _ _ h => h) (Or.inl ⟨by first | rfl | (go_simp; done), ?yc11⟩) (by assumption) ?rc11
        case yc11 => intro w' hSw; (try dsimp only at hSw); go_simp; try (with_reducible rfl)
        go_simp
        refine wpAnyH_take (i := 12) (v := ?vc12) rfl (by kernel_rfl) (by kernel_rfl) (by kernel_rfl) (fun _ _ _ h => h) (Or.inl ⟨by first | rfl | (go_simp; done), ?yc12⟩) (by assumption) ?rc12
        case yc12 => intro w' hSw; (try dsimp only at hSw); go_simp; try (with_reducible rfl)
        go_simp
        refine wpAnyH_take (i := 13) (v := ?vc13) rfl (by kernel_rfl) (by kernel_rfl) (by kernel_rfl) (fun _ _ _ h => h) (Or.inl ⟨by rfl, ?yc13⟩) (by assumption) ?rc13
        case yc13 => intro w' hSw; (try dsimp only at hSw); go_simp; try (with_reducible rfl)
        go_simp
        refine wpAnyH_take (i := 14) (v := ?vc14) rfl (by kernel_rfl) (by kernel_rfl) (by kernel_rfl) (fun _ _ _ h => h) (Or.inl ⟨by rfl, ?yc14⟩) (by assumption) ?rc14
        case yc14 => intro w' hSw; (try dsimp only at hSw); go_simp; try (with_reducible rfl)
        go_simp
        refine wpAnyH_take (i := 15) (v := undef) rfl (by kernel_rfl) (by kernel_rfl) (by kernel_rfl) (fun _ _ _ h => h) (Or.inr ⟨by go_simp, rfl⟩) (by assumption) ?_
        go_simp
        refine wpAnyH_take (i := 16) (v := undef) rfl (by kernel_rfl) (by kernel_rfl) (by kernel_rfl) (fun _ _ _ h => h) (Or.inr ⟨by go_simp, rfl⟩) (by assumption) ?_
        go_simp
        refine wpAnyH_take (i := 17) (v := undef) rfl (by kernel_rfl) (by kernel_rfl) (by kernel_rfl) (fun _ _ _ h => h) (Or.inr ⟨by go_simp, rfl⟩) (by assumption) ?_
        go_simp
        refine wpAnyH_take (i := 18) (v := undef) rfl (by kernel_rfl) (by kernel_rfl) (by kernel_rfl) (fun _ _ _ h => h) (Or.inr ⟨by go_simp, rfl⟩) (by assumption) ?_
        go_simp
        refine wpAnyH_take (i := 19) (v := undef) rfl (by kernel_rfl) (by kernel_rfl) (by kernel_rfl) (fun _ _ _ h => h) (Or.inr ⟨by go_simp, rfl⟩) (by assumption) ?_
        go_simp
        refine wpAnyH_take (i := 20) (v := undef) rfl (by kernel_rfl) (by kernel_rfl) (by kernel_rfl) (fun _ _ _ h => h) (Or.inr ⟨by go_simp, rfl⟩) (by assumption) ?_
        go_simp
        refine wpAnyH_take (i := 21) (v := undef) rfl (by kernel_rfl) (by kernel_rfl) (by kernel_rfl) (fun _ _ _ h => h) (Or.inr ⟨by go_simp, rfl⟩) (by assumption) ?_
        go_simp
        refine wpAnyH_take (i := 22) (v := undef) rfl (by kernel_rfl) (by kernel_rfl) (by kernel_rfl) (fun _ _ _ h => h) (Or.inr ⟨by go_simp, rfl⟩) (by assumption) ?_
        go_simp
        refine wpAnyH_take (i := 23) (v := undef) rfl (by kernel_rfl) (by kernel_rfl) (by kernel_rfl) (fun _ _ _ h => h) (Or.inr ⟨by go_simp, rfl⟩) (by assumption) ?_
        go_simp
        refine wpAnyH_take (i := 24) (v := undef) rfl (by kernel_rfl) (by kernel_rfl) (by kernel_rfl) (fun _ _ _ h => h) (Or.inr ⟨by go_simp, rfl⟩) (by assumption) ?_
        go_simp
        refine wpAnyH_take (i := 25) (v := undef) rfl (by kernel_rfl) (by kernel_rfl) (by kernel_rfl) (fun _ _ _ h => h) (Or.inr ⟨by go_simp, rfl⟩) (by assumption) ?_
        go_simp
        refine wpAnyH_take (i := 26) (v := undef) rfl (by kernel_rfl) (by kernel_rfl) (by kernel_rfl) (fun _ _ _ h => h) (Or.inr ⟨by go_simp, rfl⟩) (by assumption) ?_
        go_simp
        refine wpAnyH_take (i := 27) (v := ?vc27) rfl (by kernel_rfl) (by kernel_rfl) (by kernel_rfl) (fun _ _ _ h => h) (Or.inl ⟨by rfl, ?yc27⟩) (by assumption) ?rc27
        case yc27 => intro w' hSw; (try dsimp only at hSw); go_simp; try (with_reducible rfl)
        go_simp
        refine wpAnyH_done (by kernel_rfl) ?_ _
        go_wp2
        go_ret
        exact ⟨ret_bool HF.out.symm, below_on HB.out HN.out (by go_grown)⟩
      have hd2 : decide (8 ≤ y.b) = false := by simpa using hs2
      have HC : Hid (cellOk y = true) := by show _ = _; unfold cellOk; rw [hpl]; simp; omega
      by_cases hk0 : kk = 0
      · subst hk0
        have HG : Hid (cellOk y = true ∧ (0 = 0 ∨ beforeC (p.getD (0 - 1) default) y = true)) := ⟨HC.out, .inl rfl⟩
        clear RA
        refine wp_region_held_drew (S := fun w' => w'.cell? ⟨wr.heap.size, 0, none⟩ = some (.int .i64 y.op) ∧ w'.cell? ⟨wr.heap.size, 1, none⟩ = some (.int .i64 y.a) ∧ w'.cell? ⟨wr.heap.size, 2, none⟩ = some (.int .i64 y.b)) (by kernel_rfl) (by (try dsimp only); exact HS _ (by first | exact below_on2 HN.out (by go_grown) | go_grown)) (fun hHeld => ?_)
        refine wpAnyH_take (i := 0) (v := ?vd0) rfl (by kernel_rfl) (by kernel_rfl) (by kernel_rfl) (fun _ _ _ h => h) (Or.inl ⟨by rfl, ?yd0⟩) (by assumption) ?rd0
        case yd0 => intro w' hSw; (try dsimp only at hSw); go_simp; try (with_reducible rfl)
        go_simp
        refine wpAnyH_ready (rs := [1]) (by kernel_rfl) (by simp) ?_
        refine AllReadyH.cons rfl (fun K hK => ?_) AllReadyH.nil
        go_simp
        go_at_call 44
        refine (at_any y _).mono ?_
        rintro e w7 ⟨rfl, hb⟩
        have HN := (show Hid (Below w1.heap.size w1 w7) from below_on HN.out (by go_grown) hb)
        clear hb
        refine hK.out _ _ ?_ (fun hHeld => ?_)
        · (try dsimp only); exact HS _ (by first | exact below_on2 HN.out (by go_grown) | go_grown)
        clear hK K
        try go_simp
        refine wpAnyH_ready (rs := [2]) (by kernel_rfl) (by simp) ?_
        refine AllReadyH.cons rfl (fun K hK => ?_) AllReadyH.nil
        go_simp
        go_at_call 43
        refine (placed_any y.op y.a _).mono ?_
        rw [hpl]
        rintro e w7 ⟨rfl, hb⟩
        have HN := (show Hid (Below w1.heap.size w1 w7) from below_on HN.out (by go_grown) hb)
        clear hb
        refine hK.out _ _ ?_ (fun hHeld => ?_)
        · (try dsimp only); exact HS _ (by first | exact below_on2 HN.out (by go_grown) | go_grown)
        clear hK K
        try go_simp
        refine wpAnyH_take (i := 3) (v := ?vd3) rfl (by kernel_rfl) (by kernel_rfl) (by kernel_rfl) (fun _ _ _ h => h) (Or.inl ⟨by rfl, ?yd3⟩) (by assumption) ?rd3
        case yd3 => intro w' hSw; (try dsimp only at hSw); go_simp; try (with_reducible rfl)
        go_simp
        refine wpAnyH_take (i := 4) (v := ?vd4) rfl (by kernel_rfl) (by kernel_rfl) (by kernel_rfl) (fun _ _ _ h => h) (Or.inl ⟨by rfl, ?yd4⟩) (by assumption) ?rd4
        case yd4 => intro w' hSw; (try dsimp only at hSw); go_simp; try (with_reducible rfl)
        go_simp
        refine wpAnyH_take (i := 5) (v := ?vd5) rfl (by kernel_rfl) (by kernel_rfl) (by kernel_rfl) (fun _ _ _ h => h) (Or.inl ⟨by first | rfl | (go_simp; done), ?yd5⟩) (by assumption) ?rd5
        case yd5 => intro w' hSw; (try dsimp only at hSw); go_simp; try (with_reducible rfl)
        go_simp
        refine wpAnyH_take (i := 6) (v := ?vd6) rfl (by kernel_rfl) (by kernel_rfl) (by kernel_rfl) (fun _ _ _ h => h) (Or.inl ⟨by first | rfl | (go_simp; done), ?yd6⟩) (by assumption) ?rd6
        case yd6 => intro w' hSw; (try dsimp only at hSw); go_simp; try (with_reducible rfl)
        go_simp
        refine wpAnyH_take (i := 7) (v := ?vd7) rfl (by kernel_rfl) (by kernel_rfl) (by kernel_rfl) (fun _ _ _ h => h) (Or.inl ⟨by first | rfl | (go_simp; done), ?yd7⟩) (by assumption) ?rd7
        case yd7 => intro w' hSw; (try dsimp only at hSw); go_simp; try (with_reducible rfl)
        go_simp
        refine wpAnyH_take (i := 8) (v := ?vd8) rfl (by kernel_rfl) (by kernel_rfl) (by kernel_rfl) (fun _ _ _ h => h) (Or.inl ⟨by rfl, ?yd8⟩) (by assumption) ?rd8
        case yd8 => intro w' hSw; (try dsimp only at hSw); go_simp; try (with_reducible rfl)
        go_simp
        refine wpAnyH_take (i := 9) (v := ?vd9) rfl (by kernel_rfl) (by kernel_rfl) (by kernel_rfl) (fun _ _ _ h => h) (Or.inl ⟨by rfl, ?yd9⟩) (by assumption) ?rd9
        case yd9 => intro w' hSw; (try dsimp only at hSw); go_simp; try (with_reducible rfl)
        go_simp
        refine wpAnyH_take (i := 10) (v := ?vd10) rfl (by kernel_rfl) (by kernel_rfl) (by kernel_rfl) (fun _ _ _ h => h) (Or.inl ⟨by first | rfl | (go_simp; done), ?yd10⟩) (by assumption) ?rd10
        case yd10 => intro w' hSw; (try dsimp only at hSw); go_simp; try (with_reducible rfl)
        go_simp
        refine wpAnyH_take (i := 11) (v := ?vd11) rfl (by kernel_rfl) (by kernel_rfl) (by kernel_rfl) (fun _ _ _ h => h) (Or.inl ⟨by first | rfl | (go_simp; done), ?yd11⟩) (by assumption) ?rd11
        case yd11 => intro w' hSw; (try dsimp only at hSw); go_simp; try (with_reducible rfl)
        go_simp
        refine wpAnyH_take (i := 12) (v := ?vd12) rfl (by kernel_rfl) (by kernel_rfl) (by kernel_rfl) (fun _ _ _ h => h) (Or.inl ⟨by first | rfl | (go_simp; done), ?yd12⟩) (by assumption) ?rd12
        case yd12 => intro w' hSw; (try dsimp only at hSw); go_simp; try (with_reducible rfl)
        go_simp
        refine wpAnyH_take (i := 13) (v := ?vd13) rfl (by kernel_rfl) (by kernel_rfl) (by kernel_rfl) (fun _ _ _ h => h) (Or.inl ⟨by rfl, ?yd13⟩) (by assumption) ?rd13
        case yd13 => intro w' hSw; (try dsimp only at hSw); go_simp; try (with_reducible rfl)
        go_simp
        refine wpAnyH_take (i := 14) (v := ?vd14) rfl (by kernel_rfl) (by kernel_rfl) (by kernel_rfl) (fun _ _ _ h => h) (Or.inl ⟨by rfl, ?yd14⟩) (by assumption) ?rd14
        case yd14 => intro w' hSw; (try dsimp only at hSw); go_simp; try (with_reducible rfl)
        go_simp
        refine wpAnyH_take (i := 15) (v := ?vd15) rfl (by kernel_rfl) (by kernel_rfl) (by kernel_rfl) (fun _ _ _ h => h) (Or.inl ⟨by first | rfl | (go_simp; done), ?yd15⟩) (by assumption) ?rd15
        case yd15 => intro w' hSw; (try dsimp only at hSw); go_simp; try (with_reducible rfl)
        go_simp
        refine wpAnyH_take (i := 16) (v := ?vd16) rfl (by kernel_rfl) (by kernel_rfl) (by kernel_rfl) (fun _ _ _ h => h) (Or.inl ⟨by first | rfl | (go_simp; done), ?yd16⟩) (by assumption) ?rd16
        case yd16 => intro w' hSw; (try dsimp only at hSw); go_simp; try (with_reducible rfl)
        go_simp
        refine wpAnyH_take (i := 17) (v := ?vd17) rfl (by kernel_rfl) (by kernel_rfl) (by kernel_rfl) (fun _ _ _ h => h) (Or.inl ⟨by first | rfl | (go_simp; done), ?yd17⟩) (by assumption) ?rd17
        case yd17 => intro w' hSw; (try dsimp only at hSw); go_simp; try (with_reducible rfl)
        go_simp
        refine wpAnyH_take (i := 18) (v := undef) rfl (by kernel_rfl) (by kernel_rfl) (by kernel_rfl) (fun _ _ _ h => h) (Or.inr ⟨by go_simp, rfl⟩) (by assumption) ?_
        go_simp
        refine wpAnyH_take (i := 19) (v := undef) rfl (by kernel_rfl) (by kernel_rfl) (by kernel_rfl) (fun _ _ _ h => h) (Or.inr ⟨by go_simp, rfl⟩) (by assumption) ?_
        go_simp
        refine wpAnyH_take (i := 20) (v := undef) rfl (by kernel_rfl) (by kernel_rfl) (by kernel_rfl) (fun _ _ _ h => h) (Or.inr ⟨by go_simp, rfl⟩) (by assumption) ?_
        go_simp
        refine wpAnyH_take (i := 21) (v := undef) rfl (by kernel_rfl) (by kernel_rfl) (by kernel_rfl) (fun _ _ _ h => h) (Or.inr ⟨by go_simp, rfl⟩) (by assumption) ?_
        go_simp
        refine wpAnyH_take (i := 22) (v := undef) rfl (by kernel_rfl) (by kernel_rfl) (by kernel_rfl) (fun _ _ _ h => h) (Or.inr ⟨by go_simp, rfl⟩) (by assumption) ?_
        go_simp
        refine wpAnyH_take (i := 23) (v := undef) rfl (by kernel_rfl) (by kernel_rfl) (by kernel_rfl) (fun _ _ _ h => h) (Or.inr ⟨by go_simp, rfl⟩) (by assumption) ?_
        go_simp
        refine wpAnyH_take (i := 24) (v := undef) rfl (by kernel_rfl) (by kernel_rfl) (by kernel_rfl) (fun _ _ _ h => h) (Or.inr ⟨by go_simp, rfl⟩) (by assumption) ?_
        go_simp
        refine wpAnyH_take (i := 25) (v := undef) rfl (by kernel_rfl) (by kernel_rfl) (by kernel_rfl) (fun _ _ _ h => h) (Or.inr ⟨by go_simp, rfl⟩) (by assumption) ?_
        go_simp
        refine wpAnyH_take (i := 26) (v := ?vd26) rfl (by kernel_rfl) (by kernel_rfl) (by kernel_rfl) (fun _ _ _ h => h) (Or.inl ⟨by first | rfl | (go_simp; done), ?yd26⟩) (by assumption) ?rd26
        case yd26 => intro w' hSw; (try dsimp only at hSw); go_simp; try (with_reducible rfl)
        go_simp
        refine wpAnyH_take (i := 27) (v := ?vd27) rfl (by kernel_rfl) (by kernel_rfl) (by kernel_rfl) (fun _ _ _ h => h) (Or.inl ⟨by rfl, ?yd27⟩) (by assumption) ?rd27
        case yd27 => intro w' hSw; (try dsimp only at hSw); go_simp; try (with_reducible rfl)
        go_simp
        refine wpAnyH_done (by kernel_rfl) ?_ _
        go_wp2
        go_roundg (n - (0 + 1))
        case measure => omega
        case rel =>
          refine ⟨0 + 1, by omega, by omega, by go_num, (show Below _ _ _ from below_on HB.out HN.out (by go_grown)), (show Aside _ from fun i hi => ?_)⟩
          by_cases e : i = 0
          · subst e
            exact ⟨by rw [HY.out]; exact HC.out, .inl rfl⟩
          · exact AA.out i (by omega)
      · obtain ⟨j, rfl⟩ : ∃ j, kk = j + 1 := ⟨kk - 1, by omega⟩
        obtain ⟨ad', e', hb2, g0, g1, g2⟩ := (H.out.up BW.out).gate (show j < n by omega)
        cases e'
        generalize hq : p.getD j default = q at g0 g1 g2
        have HQ : Hid (p.getD j default = q) := hq
        clear hq
        have hbw : Below wr.heap.size wr w1 := HW.out
        have HS : ∀ w', Below w1.heap.size w1 w' → w'.cell? ⟨wr.heap.size, 0, none⟩ = some (.int .i64 y.op) ∧ w'.cell? ⟨wr.heap.size, 1, none⟩ = some (.int .i64 y.a) ∧ w'.cell? ⟨wr.heap.size, 2, none⟩ = some (.int .i64 y.b) ∧ w'.cell? (ad.add (j * 3)) = some (.int .i64 q.op) ∧ w'.cell? ⟨(ad.add (j * 3)).block, (ad.add (j * 3)).off + 1, none⟩ = some (.int .i64 q.a) ∧ w'.cell? ⟨(ad.add (j * 3)).block, (ad.add (j * 3)).off + 2, none⟩ = some (.int .i64 q.b) := fun w' hw => ⟨(rowCells RA.out hw).cell 0, (rowCells RA.out hw).cell 1, (rowCells RA.out hw).cell 2, ((hbw.trans (hw.mono hbw.size)).cell (by rw [add_block]; exact hb)).trans g0, ((hbw.trans (hw.mono hbw.size)).cell (p := ⟨(ad.add (j * 3)).block, (ad.add (j * 3)).off + 1, none⟩) (by show (ad.add (j * 3)).block < _; rw [add_block]; exact hb)).trans g1, ((hbw.trans (hw.mono hbw.size)).cell (p := ⟨(ad.add (j * 3)).block, (ad.add (j * 3)).off + 2, none⟩) (by show (ad.add (j * 3)).block < _; rw [add_block]; exact hb)).trans g2⟩
        have hj0 : (0 : Int) < (j : Int) + 1 := by omega
        have hjn : (j : Int) < (n : Int) := by omega
        have hj1 : (0 : Int) ≤ (j : Int) := by omega
        have hwj : IntKind.i64.wrap (j : Int) = (j : Int) := IntWalk.i64_in _ (by omega)
        cases hbe : beforeC q y
        · have HF : Hid (rightP p = false) := rightP_false_at p (j + 1) (by rw [HL.out]; exact hlt) (.inr ⟨by omega, by rw [HY.out, Nat.add_sub_cancel, HQ.out]; exact hbe⟩)
          have hd3 : decide (0 ≤ orderC q y) = true := by rw [orderC_lt, hbe]; rfl
          generalize ho : orderC q y = o at hd3
          have HO : Hid (orderC q y = o) := ho
          clear ho RA g0 g1 g2
          refine wp_region_held_drew (S := fun w' => w'.cell? ⟨wr.heap.size, 0, none⟩ = some (.int .i64 y.op) ∧ w'.cell? ⟨wr.heap.size, 1, none⟩ = some (.int .i64 y.a) ∧ w'.cell? ⟨wr.heap.size, 2, none⟩ = some (.int .i64 y.b) ∧ w'.cell? (ad.add (j * 3)) = some (.int .i64 q.op) ∧ w'.cell? ⟨(ad.add (j * 3)).block, (ad.add (j * 3)).off + 1, none⟩ = some (.int .i64 q.a) ∧ w'.cell? ⟨(ad.add (j * 3)).block, (ad.add (j * 3)).off + 2, none⟩ = some (.int .i64 q.b)) (by kernel_rfl) (by (try dsimp only); exact HS _ (by first | exact below_on2 HN.out (by go_grown) | go_grown)) (fun hHeld => ?_)
          refine wpAnyH_take (i := 0) (v := ?ve0) rfl (by kernel_rfl) (by kernel_rfl) (by kernel_rfl) (fun _ _ _ h => h) (Or.inl ⟨by rfl, ?ye0⟩) (by assumption) ?re0
          case ye0 => intro w' hSw; (try dsimp only at hSw); go_simp; try (with_reducible rfl)
          go_simp
          refine wpAnyH_ready (rs := [1]) (by kernel_rfl) (by simp) ?_
          refine AllReadyH.cons rfl (fun K hK => ?_) AllReadyH.nil
          go_simp
          go_at_call 44
          refine (at_any y _).mono ?_
          rintro e w7 ⟨rfl, hb⟩
          have HN := (show Hid (Below w1.heap.size w1 w7) from below_on HN.out (by go_grown) hb)
          clear hb
          refine hK.out _ _ ?_ (fun hHeld => ?_)
          · (try dsimp only); exact HS _ (by first | exact below_on2 HN.out (by go_grown) | go_grown)
          clear hK K
          try go_simp
          refine wpAnyH_ready (rs := [2]) (by kernel_rfl) (by simp) ?_
          refine AllReadyH.cons rfl (fun K hK => ?_) AllReadyH.nil
          go_simp
          go_at_call 43
          refine (placed_any y.op y.a _).mono ?_
          rw [hpl]
          rintro e w7 ⟨rfl, hb⟩
          have HN := (show Hid (Below w1.heap.size w1 w7) from below_on HN.out (by go_grown) hb)
          clear hb
          refine hK.out _ _ ?_ (fun hHeld => ?_)
          · (try dsimp only); exact HS _ (by first | exact below_on2 HN.out (by go_grown) | go_grown)
          clear hK K
          try go_simp
          refine wpAnyH_take (i := 3) (v := ?ve3) rfl (by kernel_rfl) (by kernel_rfl) (by kernel_rfl) (fun _ _ _ h => h) (Or.inl ⟨by rfl, ?ye3⟩) (by assumption) ?re3
          case ye3 => intro w' hSw; (try dsimp only at hSw); go_simp; try (with_reducible rfl)
          go_simp
          refine wpAnyH_take (i := 4) (v := ?ve4) rfl (by kernel_rfl) (by kernel_rfl) (by kernel_rfl) (fun _ _ _ h => h) (Or.inl ⟨by rfl, ?ye4⟩) (by assumption) ?re4
          case ye4 => intro w' hSw; (try dsimp only at hSw); go_simp; try (with_reducible rfl)
          go_simp
          refine wpAnyH_take (i := 5) (v := ?ve5) rfl (by kernel_rfl) (by kernel_rfl) (by kernel_rfl) (fun _ _ _ h => h) (Or.inl ⟨by first | rfl | (go_simp; done), ?ye5⟩) (by assumption) ?re5
          case ye5 => intro w' hSw; (try dsimp only at hSw); go_simp; try (with_reducible rfl)
          go_simp
          refine wpAnyH_take (i := 6) (v := ?ve6) rfl (by kernel_rfl) (by kernel_rfl) (by kernel_rfl) (fun _ _ _ h => h) (Or.inl ⟨by first | rfl | (go_simp; done), ?ye6⟩) (by assumption) ?re6
          case ye6 => intro w' hSw; (try dsimp only at hSw); go_simp; try (with_reducible rfl)
          go_simp
          refine wpAnyH_take (i := 7) (v := ?ve7) rfl (by kernel_rfl) (by kernel_rfl) (by kernel_rfl) (fun _ _ _ h => h) (Or.inl ⟨by first | rfl | (go_simp; done), ?ye7⟩) (by assumption) ?re7
          case ye7 => intro w' hSw; (try dsimp only at hSw); go_simp; try (with_reducible rfl)
          go_simp
          refine wpAnyH_take (i := 8) (v := ?ve8) rfl (by kernel_rfl) (by kernel_rfl) (by kernel_rfl) (fun _ _ _ h => h) (Or.inl ⟨by rfl, ?ye8⟩) (by assumption) ?re8
          case ye8 => intro w' hSw; (try dsimp only at hSw); go_simp; try (with_reducible rfl)
          go_simp
          refine wpAnyH_take (i := 9) (v := ?ve9) rfl (by kernel_rfl) (by kernel_rfl) (by kernel_rfl) (fun _ _ _ h => h) (Or.inl ⟨by rfl, ?ye9⟩) (by assumption) ?re9
          case ye9 => intro w' hSw; (try dsimp only at hSw); go_simp; try (with_reducible rfl)
          go_simp
          refine wpAnyH_take (i := 10) (v := ?ve10) rfl (by kernel_rfl) (by kernel_rfl) (by kernel_rfl) (fun _ _ _ h => h) (Or.inl ⟨by first | rfl | (go_simp; done), ?ye10⟩) (by assumption) ?re10
          case ye10 => intro w' hSw; (try dsimp only at hSw); go_simp; try (with_reducible rfl)
          go_simp
          refine wpAnyH_take (i := 11) (v := ?ve11) rfl (by kernel_rfl) (by kernel_rfl) (by kernel_rfl) (fun _ _ _ h => h) (Or.inl ⟨by first | rfl | (go_simp; done), ?ye11⟩) (by assumption) ?re11
          case ye11 => intro w' hSw; (try dsimp only at hSw); go_simp; try (with_reducible rfl)
          go_simp
          refine wpAnyH_take (i := 12) (v := ?ve12) rfl (by kernel_rfl) (by kernel_rfl) (by kernel_rfl) (fun _ _ _ h => h) (Or.inl ⟨by first | rfl | (go_simp; done), ?ye12⟩) (by assumption) ?re12
          case ye12 => intro w' hSw; (try dsimp only at hSw); go_simp; try (with_reducible rfl)
          go_simp
          refine wpAnyH_take (i := 13) (v := ?ve13) rfl (by kernel_rfl) (by kernel_rfl) (by kernel_rfl) (fun _ _ _ h => h) (Or.inl ⟨by rfl, ?ye13⟩) (by assumption) ?re13
          case ye13 => intro w' hSw; (try dsimp only at hSw); go_simp; try (with_reducible rfl)
          go_simp
          refine wpAnyH_take (i := 14) (v := ?ve14) rfl (by kernel_rfl) (by kernel_rfl) (by kernel_rfl) (fun _ _ _ h => h) (Or.inl ⟨by rfl, ?ye14⟩) (by assumption) ?re14
          case ye14 => intro w' hSw; (try dsimp only at hSw); go_simp; try (with_reducible rfl)
          go_simp
          refine wpAnyH_take (i := 15) (v := ?ve15) rfl (by kernel_rfl) (by kernel_rfl) (by kernel_rfl) (fun _ _ _ h => h) (Or.inl ⟨by first | rfl | (go_simp; done), ?ye15⟩) (by assumption) ?re15
          case ye15 => intro w' hSw; (try dsimp only at hSw); go_simp; try (with_reducible rfl)
          go_simp
          refine wpAnyH_take (i := 16) (v := ?ve16) rfl (by kernel_rfl) (by kernel_rfl) (by kernel_rfl) (fun _ _ _ h => h) (Or.inl ⟨by first | rfl | (go_simp; done), ?ye16⟩) (by assumption) ?re16
          case ye16 => intro w' hSw; (try dsimp only at hSw); go_simp; try (with_reducible rfl)
          go_simp
          refine wpAnyH_take (i := 17) (v := ?ve17) rfl (by kernel_rfl) (by kernel_rfl) (by kernel_rfl) (fun _ _ _ h => h) (Or.inl ⟨by first | rfl | (go_simp; done), ?ye17⟩) (by assumption) ?re17
          case ye17 => intro w' hSw; (try dsimp only at hSw); go_simp; try (with_reducible rfl)
          go_simp
          refine wpAnyH_take (i := 18) (v := ?ve18) rfl (by kernel_rfl) (by kernel_rfl) (by kernel_rfl) (fun _ _ _ h => h) (Or.inl ⟨by first | rfl | (go_simp; done), ?ye18⟩) (by assumption) ?re18
          case ye18 => intro w' hSw; (try dsimp only at hSw); go_simp; try (with_reducible rfl)
          go_simp
          refine wpAnyH_take (i := 19) (v := ?ve19) rfl (by kernel_rfl) (by kernel_rfl) (by kernel_rfl) (fun _ _ _ h => h) (Or.inl ⟨by first | rfl | (go_simp; done), ?ye19⟩) (by assumption) ?re19
          case ye19 => intro w' hSw; (try dsimp only at hSw); go_simp; try (with_reducible rfl)
          go_simp
          refine wpAnyH_take (i := 20) (v := ?ve20) rfl (by kernel_rfl) (by kernel_rfl) (by kernel_rfl) (fun _ _ _ h => h) (Or.inl ⟨by first | rfl | (go_simp; done), ?ye20⟩) (by assumption) ?re20
          case ye20 => intro w' hSw; (try dsimp only at hSw); go_simp; try (with_reducible rfl)
          go_simp
          refine wpAnyH_take (i := 21) (v := ?ve21) rfl (by kernel_rfl) (by kernel_rfl) (by kernel_rfl) (fun _ _ _ h => h) (Or.inl ⟨by first | rfl | (go_simp; done), ?ye21⟩) (by assumption) ?re21
          case ye21 => intro w' hSw; (try dsimp only at hSw); go_simp; try (with_reducible rfl)
          go_simp
          refine wpAnyH_take (i := 22) (v := ?ve22) rfl (by kernel_rfl) (by kernel_rfl) (by kernel_rfl) (fun _ _ _ h => h) (Or.inl ⟨by first | rfl | (go_simp; done), ?ye22⟩) (by assumption) ?re22
          case ye22 => intro w' hSw; (try dsimp only at hSw); go_simp; try (with_reducible rfl)
          go_simp
          refine wpAnyH_take (i := 23) (v := ?ve23) rfl (by kernel_rfl) (by kernel_rfl) (by kernel_rfl) (fun _ _ _ h => h) (Or.inl ⟨by first | rfl | (go_simp; done), ?ye23⟩) (by assumption) ?re23
          case ye23 => intro w' hSw; (try dsimp only at hSw); go_simp; try (with_reducible rfl)
          go_simp
          refine wpAnyH_ready (rs := [24]) (by kernel_rfl) (by simp) ?_
          refine AllReadyH.cons rfl (fun K hK => ?_) AllReadyH.nil
          go_simp
          go_at_call 45
          refine (order_any q y _).mono ?_
          rw [HO.out]
          rintro e w7 ⟨rfl, hb⟩
          have HN := (show Hid (Below w1.heap.size w1 w7) from below_on HN.out (by go_grown) hb)
          clear hb
          refine hK.out _ _ ?_ (fun hHeld => ?_)
          · (try dsimp only); exact HS _ (by first | exact below_on2 HN.out (by go_grown) | go_grown)
          clear hK K
          try go_simp
          refine wpAnyH_take (i := 25) (v := ?ve25) rfl (by kernel_rfl) (by kernel_rfl) (by kernel_rfl) (fun _ _ _ h => h) (Or.inl ⟨by first | rfl | (go_simp; done), ?ye25⟩) (by assumption) ?re25
          case ye25 => intro w' hSw; (try dsimp only at hSw); go_simp; try (with_reducible rfl)
          go_simp
          refine wpAnyH_take (i := 26) (v := ?ve26) rfl (by kernel_rfl) (by kernel_rfl) (by kernel_rfl) (fun _ _ _ h => h) (Or.inl ⟨by first | rfl | (go_simp; done), ?ye26⟩) (by assumption) ?re26
          case ye26 => intro w' hSw; (try dsimp only at hSw); go_simp; try (with_reducible rfl)
          go_simp
          refine wpAnyH_take (i := 27) (v := ?ve27) rfl (by kernel_rfl) (by kernel_rfl) (by kernel_rfl) (fun _ _ _ h => h) (Or.inl ⟨by rfl, ?ye27⟩) (by assumption) ?re27
          case ye27 => intro w' hSw; (try dsimp only at hSw); go_simp; try (with_reducible rfl)
          go_simp
          refine wpAnyH_done (by kernel_rfl) ?_ _
          go_wp2
          go_ret
          exact ⟨ret_bool HF.out.symm, below_on HB.out HN.out (by go_grown)⟩
        · have HG : Hid (cellOk y = true ∧ (j + 1 = 0 ∨ beforeC (p.getD (j + 1 - 1) default) y = true)) := ⟨HC.out, .inr (by rw [Nat.add_sub_cancel, HQ.out]; exact hbe)⟩
          have hd3 : decide (0 ≤ orderC q y) = false := by rw [orderC_lt, hbe]; rfl
          generalize ho : orderC q y = o at hd3
          have HO : Hid (orderC q y = o) := ho
          clear ho RA g0 g1 g2
          refine wp_region_held_drew (S := fun w' => w'.cell? ⟨wr.heap.size, 0, none⟩ = some (.int .i64 y.op) ∧ w'.cell? ⟨wr.heap.size, 1, none⟩ = some (.int .i64 y.a) ∧ w'.cell? ⟨wr.heap.size, 2, none⟩ = some (.int .i64 y.b) ∧ w'.cell? (ad.add (j * 3)) = some (.int .i64 q.op) ∧ w'.cell? ⟨(ad.add (j * 3)).block, (ad.add (j * 3)).off + 1, none⟩ = some (.int .i64 q.a) ∧ w'.cell? ⟨(ad.add (j * 3)).block, (ad.add (j * 3)).off + 2, none⟩ = some (.int .i64 q.b)) (by kernel_rfl) (by (try dsimp only); exact HS _ (by first | exact below_on2 HN.out (by go_grown) | go_grown)) (fun hHeld => ?_)
          refine wpAnyH_take (i := 0) (v := ?vf0) rfl (by kernel_rfl) (by kernel_rfl) (by kernel_rfl) (fun _ _ _ h => h) (Or.inl ⟨by rfl, ?yf0⟩) (by assumption) ?rf0
          case yf0 => intro w' hSw; (try dsimp only at hSw); go_simp; try (with_reducible rfl)
          go_simp
          refine wpAnyH_ready (rs := [1]) (by kernel_rfl) (by simp) ?_
          refine AllReadyH.cons rfl (fun K hK => ?_) AllReadyH.nil
          go_simp
          go_at_call 44
          refine (at_any y _).mono ?_
          rintro e w7 ⟨rfl, hb⟩
          have HN := (show Hid (Below w1.heap.size w1 w7) from below_on HN.out (by go_grown) hb)
          clear hb
          refine hK.out _ _ ?_ (fun hHeld => ?_)
          · (try dsimp only); exact HS _ (by first | exact below_on2 HN.out (by go_grown) | go_grown)
          clear hK K
          try go_simp
          refine wpAnyH_ready (rs := [2]) (by kernel_rfl) (by simp) ?_
          refine AllReadyH.cons rfl (fun K hK => ?_) AllReadyH.nil
          go_simp
          go_at_call 43
          refine (placed_any y.op y.a _).mono ?_
          rw [hpl]
          rintro e w7 ⟨rfl, hb⟩
          have HN := (show Hid (Below w1.heap.size w1 w7) from below_on HN.out (by go_grown) hb)
          clear hb
          refine hK.out _ _ ?_ (fun hHeld => ?_)
          · (try dsimp only); exact HS _ (by first | exact below_on2 HN.out (by go_grown) | go_grown)
          clear hK K
          try go_simp
          refine wpAnyH_take (i := 3) (v := ?vf3) rfl (by kernel_rfl) (by kernel_rfl) (by kernel_rfl) (fun _ _ _ h => h) (Or.inl ⟨by rfl, ?yf3⟩) (by assumption) ?rf3
          case yf3 => intro w' hSw; (try dsimp only at hSw); go_simp; try (with_reducible rfl)
          go_simp
          refine wpAnyH_take (i := 4) (v := ?vf4) rfl (by kernel_rfl) (by kernel_rfl) (by kernel_rfl) (fun _ _ _ h => h) (Or.inl ⟨by rfl, ?yf4⟩) (by assumption) ?rf4
          case yf4 => intro w' hSw; (try dsimp only at hSw); go_simp; try (with_reducible rfl)
          go_simp
          refine wpAnyH_take (i := 5) (v := ?vf5) rfl (by kernel_rfl) (by kernel_rfl) (by kernel_rfl) (fun _ _ _ h => h) (Or.inl ⟨by first | rfl | (go_simp; done), ?yf5⟩) (by assumption) ?rf5
          case yf5 => intro w' hSw; (try dsimp only at hSw); go_simp; try (with_reducible rfl)
          go_simp
          refine wpAnyH_take (i := 6) (v := ?vf6) rfl (by kernel_rfl) (by kernel_rfl) (by kernel_rfl) (fun _ _ _ h => h) (Or.inl ⟨by first | rfl | (go_simp; done), ?yf6⟩) (by assumption) ?rf6
          case yf6 => intro w' hSw; (try dsimp only at hSw); go_simp; try (with_reducible rfl)
          go_simp
          refine wpAnyH_take (i := 7) (v := ?vf7) rfl (by kernel_rfl) (by kernel_rfl) (by kernel_rfl) (fun _ _ _ h => h) (Or.inl ⟨by first | rfl | (go_simp; done), ?yf7⟩) (by assumption) ?rf7
          case yf7 => intro w' hSw; (try dsimp only at hSw); go_simp; try (with_reducible rfl)
          go_simp
          refine wpAnyH_take (i := 8) (v := ?vf8) rfl (by kernel_rfl) (by kernel_rfl) (by kernel_rfl) (fun _ _ _ h => h) (Or.inl ⟨by rfl, ?yf8⟩) (by assumption) ?rf8
          case yf8 => intro w' hSw; (try dsimp only at hSw); go_simp; try (with_reducible rfl)
          go_simp
          refine wpAnyH_take (i := 9) (v := ?vf9) rfl (by kernel_rfl) (by kernel_rfl) (by kernel_rfl) (fun _ _ _ h => h) (Or.inl ⟨by rfl, ?yf9⟩) (by assumption) ?rf9
          case yf9 => intro w' hSw; (try dsimp only at hSw); go_simp; try (with_reducible rfl)
          go_simp
          refine wpAnyH_take (i := 10) (v := ?vf10) rfl (by kernel_rfl) (by kernel_rfl) (by kernel_rfl) (fun _ _ _ h => h) (Or.inl ⟨by first | rfl | (go_simp; done), ?yf10⟩) (by assumption) ?rf10
          case yf10 => intro w' hSw; (try dsimp only at hSw); go_simp; try (with_reducible rfl)
          go_simp
          refine wpAnyH_take (i := 11) (v := ?vf11) rfl (by kernel_rfl) (by kernel_rfl) (by kernel_rfl) (fun _ _ _ h => h) (Or.inl ⟨by first | rfl | (go_simp; done), ?yf11⟩) (by assumption) ?rf11
          case yf11 => intro w' hSw; (try dsimp only at hSw); go_simp; try (with_reducible rfl)
          go_simp
          refine wpAnyH_take (i := 12) (v := ?vf12) rfl (by kernel_rfl) (by kernel_rfl) (by kernel_rfl) (fun _ _ _ h => h) (Or.inl ⟨by first | rfl | (go_simp; done), ?yf12⟩) (by assumption) ?rf12
          case yf12 => intro w' hSw; (try dsimp only at hSw); go_simp; try (with_reducible rfl)
          go_simp
          refine wpAnyH_take (i := 13) (v := ?vf13) rfl (by kernel_rfl) (by kernel_rfl) (by kernel_rfl) (fun _ _ _ h => h) (Or.inl ⟨by rfl, ?yf13⟩) (by assumption) ?rf13
          case yf13 => intro w' hSw; (try dsimp only at hSw); go_simp; try (with_reducible rfl)
          go_simp
          refine wpAnyH_take (i := 14) (v := ?vf14) rfl (by kernel_rfl) (by kernel_rfl) (by kernel_rfl) (fun _ _ _ h => h) (Or.inl ⟨by rfl, ?yf14⟩) (by assumption) ?rf14
          case yf14 => intro w' hSw; (try dsimp only at hSw); go_simp; try (with_reducible rfl)
          go_simp
          refine wpAnyH_take (i := 15) (v := ?vf15) rfl (by kernel_rfl) (by kernel_rfl) (by kernel_rfl) (fun _ _ _ h => h) (Or.inl ⟨by first | rfl | (go_simp; done), ?yf15⟩) (by assumption) ?rf15
          case yf15 => intro w' hSw; (try dsimp only at hSw); go_simp; try (with_reducible rfl)
          go_simp
          refine wpAnyH_take (i := 16) (v := ?vf16) rfl (by kernel_rfl) (by kernel_rfl) (by kernel_rfl) (fun _ _ _ h => h) (Or.inl ⟨by first | rfl | (go_simp; done), ?yf16⟩) (by assumption) ?rf16
          case yf16 => intro w' hSw; (try dsimp only at hSw); go_simp; try (with_reducible rfl)
          go_simp
          refine wpAnyH_take (i := 17) (v := ?vf17) rfl (by kernel_rfl) (by kernel_rfl) (by kernel_rfl) (fun _ _ _ h => h) (Or.inl ⟨by first | rfl | (go_simp; done), ?yf17⟩) (by assumption) ?rf17
          case yf17 => intro w' hSw; (try dsimp only at hSw); go_simp; try (with_reducible rfl)
          go_simp
          refine wpAnyH_take (i := 18) (v := ?vf18) rfl (by kernel_rfl) (by kernel_rfl) (by kernel_rfl) (fun _ _ _ h => h) (Or.inl ⟨by first | rfl | (go_simp; done), ?yf18⟩) (by assumption) ?rf18
          case yf18 => intro w' hSw; (try dsimp only at hSw); go_simp; try (with_reducible rfl)
          go_simp
          refine wpAnyH_take (i := 19) (v := ?vf19) rfl (by kernel_rfl) (by kernel_rfl) (by kernel_rfl) (fun _ _ _ h => h) (Or.inl ⟨by first | rfl | (go_simp; done), ?yf19⟩) (by assumption) ?rf19
          case yf19 => intro w' hSw; (try dsimp only at hSw); go_simp; try (with_reducible rfl)
          go_simp
          refine wpAnyH_take (i := 20) (v := ?vf20) rfl (by kernel_rfl) (by kernel_rfl) (by kernel_rfl) (fun _ _ _ h => h) (Or.inl ⟨by first | rfl | (go_simp; done), ?yf20⟩) (by assumption) ?rf20
          case yf20 => intro w' hSw; (try dsimp only at hSw); go_simp; try (with_reducible rfl)
          go_simp
          refine wpAnyH_take (i := 21) (v := ?vf21) rfl (by kernel_rfl) (by kernel_rfl) (by kernel_rfl) (fun _ _ _ h => h) (Or.inl ⟨by first | rfl | (go_simp; done), ?yf21⟩) (by assumption) ?rf21
          case yf21 => intro w' hSw; (try dsimp only at hSw); go_simp; try (with_reducible rfl)
          go_simp
          refine wpAnyH_take (i := 22) (v := ?vf22) rfl (by kernel_rfl) (by kernel_rfl) (by kernel_rfl) (fun _ _ _ h => h) (Or.inl ⟨by first | rfl | (go_simp; done), ?yf22⟩) (by assumption) ?rf22
          case yf22 => intro w' hSw; (try dsimp only at hSw); go_simp; try (with_reducible rfl)
          go_simp
          refine wpAnyH_take (i := 23) (v := ?vf23) rfl (by kernel_rfl) (by kernel_rfl) (by kernel_rfl) (fun _ _ _ h => h) (Or.inl ⟨by first | rfl | (go_simp; done), ?yf23⟩) (by assumption) ?rf23
          case yf23 => intro w' hSw; (try dsimp only at hSw); go_simp; try (with_reducible rfl)
          go_simp
          refine wpAnyH_ready (rs := [24]) (by kernel_rfl) (by simp) ?_
          refine AllReadyH.cons rfl (fun K hK => ?_) AllReadyH.nil
          go_simp
          go_at_call 45
          refine (order_any q y _).mono ?_
          rw [HO.out]
          rintro e w7 ⟨rfl, hb⟩
          have HN := (show Hid (Below w1.heap.size w1 w7) from below_on HN.out (by go_grown) hb)
          clear hb
          refine hK.out _ _ ?_ (fun hHeld => ?_)
          · (try dsimp only); exact HS _ (by first | exact below_on2 HN.out (by go_grown) | go_grown)
          clear hK K
          try go_simp
          refine wpAnyH_take (i := 25) (v := ?vf25) rfl (by kernel_rfl) (by kernel_rfl) (by kernel_rfl) (fun _ _ _ h => h) (Or.inl ⟨by first | rfl | (go_simp; done), ?yf25⟩) (by assumption) ?rf25
          case yf25 => intro w' hSw; (try dsimp only at hSw); go_simp; try (with_reducible rfl)
          go_simp
          refine wpAnyH_take (i := 26) (v := ?vf26) rfl (by kernel_rfl) (by kernel_rfl) (by kernel_rfl) (fun _ _ _ h => h) (Or.inl ⟨by first | rfl | (go_simp; done), ?yf26⟩) (by assumption) ?rf26
          case yf26 => intro w' hSw; (try dsimp only at hSw); go_simp; try (with_reducible rfl)
          go_simp
          refine wpAnyH_take (i := 27) (v := ?vf27) rfl (by kernel_rfl) (by kernel_rfl) (by kernel_rfl) (fun _ _ _ h => h) (Or.inl ⟨by rfl, ?yf27⟩) (by assumption) ?rf27
          case yf27 => intro w' hSw; (try dsimp only at hSw); go_simp; try (with_reducible rfl)
          go_simp
          refine wpAnyH_done (by kernel_rfl) ?_ _
          go_wp2
          go_roundg (n - (j + 1 + 1))
          case measure => omega
          case rel =>
            refine ⟨j + 1 + 1, by omega, by omega, by go_num, (show Below _ _ _ from below_on HB.out HN.out (by go_grown)), (show Aside _ from fun i hi => ?_)⟩
            by_cases e : i = j + 1
            · subst e
              rw [HY.out]
              exact HG.out
            · exact AA.out i (by omega)
    · have hltz : ¬ (kk : Int) < (n : Int) := by omega
      obtain rfl : kk = n := by omega
      go_wp2
      go_ret
      refine ⟨ret_bool ?_, BW.out⟩
      rw [rightP_true_all p (fun k hk => AA.out k (by rw [HL.out] at hk; exact hk)), HL.out]
      simp; omega
end Go.Proofs.Ytoldjjgogdbalaa
