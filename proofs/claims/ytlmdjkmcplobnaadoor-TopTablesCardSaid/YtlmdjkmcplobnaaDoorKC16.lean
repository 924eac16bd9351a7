/-
  tree.Right, walked.
-/
import Derived.Test.YtlmdjkmcplobnaaDoorKC7
namespace Go.Proofs.YtlmdjkmcplobnaaDoor
open Go.RowKit
set_option linter.unusedSimpArgs false
set_option linter.unusedVariables false

theorem rightT_head {t : Tre} (h : headOk t = false) : rightT t = false := by simp [rightT, h]
theorem rightT_node {t : Tre} (i : Nat) (hi : i < t.nodes.length) (h : nodeOk t i = false) : rightT t = false := by
  have : nodesOk t = false := decide_eq_false (fun hh => by have := hh i hi; rw [h] at this; cases this)
  simp [rightT, this]

set_option maxRecDepth 100000 in
set_option maxHeartbeats 2000000 in
theorem treeRight_bad (t : Tre) (HA NA : Option Addr) (hn hc nn nc : Nat) (sl : List Sl) (w : World) (h : TAt w t HA NA hn nn sl) (hbad : ¬ (hoodOk t.hood = true ∧ headOk t = true)) :
    Calls Tryd.prog 15 #[.agg #[.int .i64 t.states, .slice HA hn hc, .slice NA nn nc]] w fun e w' => e = .returned (.bool (rightT t)) ∧ Below w.heap.size w w' := by
  have H : Hid (TAt w t HA NA hn nn sl) := h
  have HL : Hid (t.nodes.length = nn) := h.nl
  have HLH : Hid (t.hood.length = hn) := h.hl
  have hm1 := h.h63
  have hm2 := h.n63
  clear h
  have hm1' := hm1
  unfold maxLen at hm2 hm1'
  by_cases hs0 : t.states < 2
  · have HF : Hid (rightT t = false) := rightT_head (decide_eq_false (by omega))
    have hd0 : decide (t.states < 2) = true := by simpa using hs0
    go_enter Tryd.func15, Tryd.ntmps15
    go_wp2_with fail
    have RA : Hid (Row (World.alloc w _) w.heap.size 31 [.int .i64 t.states, .slice HA hn hc, .slice NA nn nc]) := Row.new w 31 [.int .i64 t.states, .slice HA hn hc, .slice NA nn nc]
    have HB : Hid (Below w.heap.size w (World.alloc w (.cells #[.int .i64 t.states, .slice HA hn hc, .slice NA nn nc] 31))) := by show Below _ _ _; go_grown
    revert RA HB
    generalize World.alloc w (.cells #[.int .i64 t.states, .slice HA hn hc, .slice NA nn nc] 31) = w1
    intro RA HB
    have hu : undef = Value.tuple #[] := rfl
    have HH : Hid (Rd w1 w1.heap.size 2 HA hn (hoodCells t.hood)) := H.out.hood.up HB.out
    have HN : Hid (Below w1.heap.size w1 w1) := Below.refl _ _
    have hbox : w.heap.size < w1.heap.size := RA.out.lt
    have HS : ∀ w', Below w1.heap.size w1 w' → w'.cell? ⟨w.heap.size, 0, none⟩ = some (.int .i64 t.states) ∧ w'.cell? ⟨w.heap.size, 1, none⟩ = some (.slice HA hn hc) ∧ w'.cell? ⟨w.heap.size, 2, none⟩ = some (.slice NA nn nc) := fun w' hw => ⟨(rowCells RA.out hw).cell 0, (rowCells RA.out hw).cell 1, (rowCells RA.out hw).cell 2⟩
    clear RA
    refine wp_region_held_drew (S := fun w' => w'.cell? ⟨w.heap.size, 0, none⟩ = some (.int .i64 t.states) ∧ w'.cell? ⟨w.heap.size, 1, none⟩ = some (.slice HA hn hc) ∧ w'.cell? ⟨w.heap.size, 2, none⟩ = some (.slice NA nn nc)) (by kernel_rfl) (by (try dsimp only); exact HS _ (by first | exact below_on2 HN.out (by go_grown) | go_grown)) (fun hHeld => ?_)
    refine wpAnyH_take (i := 0) (v := ?va0) rfl (by kernel_rfl) (by kernel_rfl) (by kernel_rfl) (fun _ _ _ h => h) (Or.inl ⟨by rfl, ?ya0⟩) (by assumption) ?ra0
    case ya0 => intro w' hSw; (try dsimp only at hSw); go_simp; try (with_reducible rfl)
    go_simp
    refine wpAnyH_take (i := 1) (v := ?va1) rfl (by kernel_rfl) (by kernel_rfl) (by kernel_rfl) (fun _ _ _ h => h) (Or.inl ⟨by rfl, ?ya1⟩) (by assumption) ?ra1
    case ya1 => intro w' hSw; (try dsimp only at hSw); go_simp; try (with_reducible rfl)
    go_simp
    refine wpAnyH_take (i := 2) (v := ?va2) rfl (by kernel_rfl) (by kernel_rfl) (by kernel_rfl) (fun _ _ _ h => h) (Or.inl ⟨by rfl, ?ya2⟩) (by assumption) ?ra2
    case ya2 => intro w' hSw; (try dsimp only at hSw); go_simp; try (with_reducible rfl)
    go_simp
    refine wpAnyH_take (i := 3) (v := ?va3) rfl (by kernel_rfl) (by kernel_rfl) (by kernel_rfl) (fun _ _ _ h => h) (Or.inl ⟨by rfl, ?ya3⟩) (by assumption) ?ra3
    case ya3 => intro w' hSw; (try dsimp only at hSw); go_simp; try (with_reducible rfl)
    go_simp
    refine wpAnyH_take (i := 4) (v := undef) rfl (by kernel_rfl) (by kernel_rfl) (by kernel_rfl) (fun _ _ _ h => h) (Or.inr ⟨by go_simp, rfl⟩) (by assumption) ?_
    go_simp
    refine wpAnyH_take (i := 5) (v := undef) rfl (by kernel_rfl) (by kernel_rfl) (by kernel_rfl) (fun _ _ _ h => h) (Or.inr ⟨by go_simp, rfl⟩) (by assumption) ?_
    go_simp
    refine wpAnyH_take (i := 6) (v := undef) rfl (by kernel_rfl) (by kernel_rfl) (by kernel_rfl) (fun _ _ _ h => h) (Or.inr ⟨by go_simp, rfl⟩) (by assumption) ?_
    go_simp
    refine wpAnyH_take (i := 7) (v := ?va7) rfl (by kernel_rfl) (by kernel_rfl) (by kernel_rfl) (fun _ _ _ h => h) (Or.inl ⟨by rfl, ?ya7⟩) (by assumption) ?ra7
    case ya7 => intro w' hSw; (try dsimp only at hSw); go_simp; try (with_reducible rfl)
    go_simp
    refine wpAnyH_take (i := 8) (v := ?va8) rfl (by kernel_rfl) (by kernel_rfl) (by kernel_rfl) (fun _ _ _ h => h) (Or.inl ⟨by rfl, ?ya8⟩) (by assumption) ?ra8
    case ya8 => intro w' hSw; (try dsimp only at hSw); go_simp; try (with_reducible rfl)
    go_simp
    refine wpAnyH_take (i := 9) (v := undef) rfl (by kernel_rfl) (by kernel_rfl) (by kernel_rfl) (fun _ _ _ h => h) (Or.inr ⟨by go_simp, rfl⟩) (by assumption) ?_
    go_simp
    refine wpAnyH_take (i := 10) (v := undef) rfl (by kernel_rfl) (by kernel_rfl) (by kernel_rfl) (fun _ _ _ h => h) (Or.inr ⟨by go_simp, rfl⟩) (by assumption) ?_
    go_simp
    refine wpAnyH_take (i := 11) (v := undef) rfl (by kernel_rfl) (by kernel_rfl) (by kernel_rfl) (fun _ _ _ h => h) (Or.inr ⟨by go_simp, rfl⟩) (by assumption) ?_
    go_simp
    refine wpAnyH_take (i := 12) (v := undef) rfl (by kernel_rfl) (by kernel_rfl) (by kernel_rfl) (fun _ _ _ h => h) (Or.inr ⟨by go_simp, rfl⟩) (by assumption) ?_
    go_simp
    refine wpAnyH_take (i := 13) (v := ?va13) rfl (by kernel_rfl) (by kernel_rfl) (by kernel_rfl) (fun _ _ _ h => h) (Or.inl ⟨by rfl, ?ya13⟩) (by assumption) ?ra13
    case ya13 => intro w' hSw; (try dsimp only at hSw); go_simp; try (with_reducible rfl)
    go_simp
    refine wpAnyH_take (i := 14) (v := ?va14) rfl (by kernel_rfl) (by kernel_rfl) (by kernel_rfl) (fun _ _ _ h => h) (Or.inl ⟨by rfl, ?ya14⟩) (by assumption) ?ra14
    case ya14 => intro w' hSw; (try dsimp only at hSw); go_simp; try (with_reducible rfl)
    go_simp
    refine wpAnyH_take (i := 15) (v := undef) rfl (by kernel_rfl) (by kernel_rfl) (by kernel_rfl) (fun _ _ _ h => h) (Or.inr ⟨by go_simp, rfl⟩) (by assumption) ?_
    go_simp
    refine wpAnyH_take (i := 16) (v := undef) rfl (by kernel_rfl) (by kernel_rfl) (by kernel_rfl) (fun _ _ _ h => h) (Or.inr ⟨by go_simp, rfl⟩) (by assumption) ?_
    go_simp
    refine wpAnyH_take (i := 17) (v := ?va17) rfl (by kernel_rfl) (by kernel_rfl) (by kernel_rfl) (fun _ _ _ h => h) (Or.inl ⟨by rfl, ?ya17⟩) (by assumption) ?ra17
    case ya17 => intro w' hSw; (try dsimp only at hSw); go_simp; try (with_reducible rfl)
    go_simp
    refine wpAnyH_take (i := 18) (v := ?va18) rfl (by kernel_rfl) (by kernel_rfl) (by kernel_rfl) (fun _ _ _ h => h) (Or.inl ⟨by rfl, ?ya18⟩) (by assumption) ?ra18
    case ya18 => intro w' hSw; (try dsimp only at hSw); go_simp; try (with_reducible rfl)
    go_simp
    refine wpAnyH_take (i := 19) (v := undef) rfl (by kernel_rfl) (by kernel_rfl) (by kernel_rfl) (fun _ _ _ h => h) (Or.inr ⟨by go_simp, rfl⟩) (by assumption) ?_
    go_simp
    refine wpAnyH_take (i := 20) (v := undef) rfl (by kernel_rfl) (by kernel_rfl) (by kernel_rfl) (fun _ _ _ h => h) (Or.inr ⟨by go_simp, rfl⟩) (by assumption) ?_
    go_simp
    refine wpAnyH_take (i := 21) (v := ?va21) rfl (by kernel_rfl) (by kernel_rfl) (by kernel_rfl) (fun _ _ _ h => h) (Or.inl ⟨by rfl, ?ya21⟩) (by assumption) ?ra21
    case ya21 => intro w' hSw; (try dsimp only at hSw); go_simp; try (with_reducible rfl)
    go_simp
    refine wpAnyH_take (i := 22) (v := ?va22) rfl (by kernel_rfl) (by kernel_rfl) (by kernel_rfl) (fun _ _ _ h => h) (Or.inl ⟨by rfl, ?ya22⟩) (by assumption) ?ra22
    case ya22 => intro w' hSw; (try dsimp only at hSw); go_simp; try (with_reducible rfl)
    go_simp
    refine wpAnyH_take (i := 23) (v := undef) rfl (by kernel_rfl) (by kernel_rfl) (by kernel_rfl) (fun _ _ _ h => h) (Or.inr ⟨by go_simp, rfl⟩) (by assumption) ?_
    go_simp
    refine wpAnyH_take (i := 24) (v := undef) rfl (by kernel_rfl) (by kernel_rfl) (by kernel_rfl) (fun _ _ _ h => h) (Or.inr ⟨by go_simp, rfl⟩) (by assumption) ?_
    go_simp
    refine wpAnyH_take (i := 25) (v := undef) rfl (by kernel_rfl) (by kernel_rfl) (by kernel_rfl) (fun _ _ _ h => h) (Or.inr ⟨by go_simp, rfl⟩) (by assumption) ?_
    go_simp
    refine wpAnyH_take (i := 26) (v := undef) rfl (by kernel_rfl) (by kernel_rfl) (by kernel_rfl) (fun _ _ _ h => h) (Or.inr ⟨by go_simp, rfl⟩) (by assumption) ?_
    go_simp
    refine wpAnyH_take (i := 27) (v := undef) rfl (by kernel_rfl) (by kernel_rfl) (by kernel_rfl) (fun _ _ _ h => h) (Or.inr ⟨by go_simp, rfl⟩) (by assumption) ?_
    go_simp
    refine wpAnyH_take (i := 28) (v := undef) rfl (by kernel_rfl) (by kernel_rfl) (by kernel_rfl) (fun _ _ _ h => h) (Or.inr ⟨by go_simp, rfl⟩) (by assumption) ?_
    go_simp
    refine wpAnyH_take (i := 29) (v := undef) rfl (by kernel_rfl) (by kernel_rfl) (by kernel_rfl) (fun _ _ _ h => h) (Or.inr ⟨by go_simp, rfl⟩) (by assumption) ?_
    go_simp
    refine wpAnyH_take (i := 30) (v := undef) rfl (by kernel_rfl) (by kernel_rfl) (by kernel_rfl) (fun _ _ _ h => h) (Or.inr ⟨by go_simp, rfl⟩) (by assumption) ?_
    go_simp
    refine wpAnyH_take (i := 31) (v := undef) rfl (by kernel_rfl) (by kernel_rfl) (by kernel_rfl) (fun _ _ _ h => h) (Or.inr ⟨by go_simp, rfl⟩) (by assumption) ?_
    go_simp
    refine wpAnyH_take (i := 32) (v := undef) rfl (by kernel_rfl) (by kernel_rfl) (by kernel_rfl) (fun _ _ _ h => h) (Or.inr ⟨by go_simp, rfl⟩) (by assumption) ?_
    go_simp
    refine wpAnyH_take (i := 33) (v := undef) rfl (by kernel_rfl) (by kernel_rfl) (by kernel_rfl) (fun _ _ _ h => h) (Or.inr ⟨by go_simp, rfl⟩) (by assumption) ?_
    go_simp
    refine wpAnyH_take (i := 34) (v := ?va34) rfl (by kernel_rfl) (by kernel_rfl) (by kernel_rfl) (fun _ _ _ h => h) (Or.inl ⟨by rfl, ?ya34⟩) (by assumption) ?ra34
    case ya34 => intro w' hSw; (try dsimp only at hSw); go_simp; try (with_reducible rfl)
    go_simp
    refine wpAnyH_done (by kernel_rfl) ?_ _
    go_wp2
    go_ret
    exact ⟨ret_bool HF.out.symm, below_on HB.out HN.out (by go_grown)⟩
  have hd0 : decide (t.states < 2) = false := by simpa using hs0
  by_cases hs1 : 8 < t.states
  · have HF : Hid (rightT t = false) := rightT_head (decide_eq_false (by omega))
    have hd1 : decide (8 < t.states) = true := by simpa using hs1
    go_enter Tryd.func15, Tryd.ntmps15
    go_wp2_with fail
    have RA : Hid (Row (World.alloc w _) w.heap.size 31 [.int .i64 t.states, .slice HA hn hc, .slice NA nn nc]) := Row.new w 31 [.int .i64 t.states, .slice HA hn hc, .slice NA nn nc]
    have HB : Hid (Below w.heap.size w (World.alloc w (.cells #[.int .i64 t.states, .slice HA hn hc, .slice NA nn nc] 31))) := by show Below _ _ _; go_grown
    revert RA HB
    generalize World.alloc w (.cells #[.int .i64 t.states, .slice HA hn hc, .slice NA nn nc] 31) = w1
    intro RA HB
    have hu : undef = Value.tuple #[] := rfl
    have HH : Hid (Rd w1 w1.heap.size 2 HA hn (hoodCells t.hood)) := H.out.hood.up HB.out
    have HN : Hid (Below w1.heap.size w1 w1) := Below.refl _ _
    have hbox : w.heap.size < w1.heap.size := RA.out.lt
    have HS : ∀ w', Below w1.heap.size w1 w' → w'.cell? ⟨w.heap.size, 0, none⟩ = some (.int .i64 t.states) ∧ w'.cell? ⟨w.heap.size, 1, none⟩ = some (.slice HA hn hc) ∧ w'.cell? ⟨w.heap.size, 2, none⟩ = some (.slice NA nn nc) := fun w' hw => ⟨(rowCells RA.out hw).cell 0, (rowCells RA.out hw).cell 1, (rowCells RA.out hw).cell 2⟩
    clear RA
    refine wp_region_held_drew (S := fun w' => w'.cell? ⟨w.heap.size, 0, none⟩ = some (.int .i64 t.states) ∧ w'.cell? ⟨w.heap.size, 1, none⟩ = some (.slice HA hn hc) ∧ w'.cell? ⟨w.heap.size, 2, none⟩ = some (.slice NA nn nc)) (by kernel_rfl) (by (try dsimp only); exact HS _ (by first | exact below_on2 HN.out (by go_grown) | go_grown)) (fun hHeld => ?_)
    refine wpAnyH_take (i := 0) (v := ?vb0) rfl (by kernel_rfl) (by kernel_rfl) (by kernel_rfl) (fun _ _ _ h => h) (Or.inl ⟨by rfl, ?yb0⟩) (by assumption) ?rb0
    case yb0 => intro w' hSw; (try dsimp only at hSw); go_simp; try (with_reducible rfl)
    go_simp
    refine wpAnyH_take (i := 1) (v := ?vb1) rfl (by kernel_rfl) (by kernel_rfl) (by kernel_rfl) (fun _ _ _ h => h) (Or.inl ⟨by rfl, ?yb1⟩) (by assumption) ?rb1
    case yb1 => intro w' hSw; (try dsimp only at hSw); go_simp; try (with_reducible rfl)
    go_simp
    refine wpAnyH_take (i := 2) (v := ?vb2) rfl (by kernel_rfl) (by kernel_rfl) (by kernel_rfl) (fun _ _ _ h => h) (Or.inl ⟨by rfl, ?yb2⟩) (by assumption) ?rb2
    case yb2 => intro w' hSw; (try dsimp only at hSw); go_simp; try (with_reducible rfl)
    go_simp
    refine wpAnyH_take (i := 3) (v := ?vb3) rfl (by kernel_rfl) (by kernel_rfl) (by kernel_rfl) (fun _ _ _ h => h) (Or.inl ⟨by rfl, ?yb3⟩) (by assumption) ?rb3
    case yb3 => intro w' hSw; (try dsimp only at hSw); go_simp; try (with_reducible rfl)
    go_simp
    refine wpAnyH_take (i := 4) (v := ?vb4) rfl (by kernel_rfl) (by kernel_rfl) (by kernel_rfl) (fun _ _ _ h => h) (Or.inl ⟨by first | rfl | (go_simp; done), ?yb4⟩) (by assumption) ?rb4
    case yb4 => intro w' hSw; (try dsimp only at hSw); go_simp; try (with_reducible rfl)
    go_simp
    refine wpAnyH_take (i := 5) (v := ?vb5) rfl (by kernel_rfl) (by kernel_rfl) (by kernel_rfl) (fun _ _ _ h => h) (Or.inl ⟨by first | rfl | (go_simp; done), ?yb5⟩) (by assumption) ?rb5
    case yb5 => intro w' hSw; (try dsimp only at hSw); go_simp; try (with_reducible rfl)
    go_simp
    refine wpAnyH_take (i := 6) (v := ?vb6) rfl (by kernel_rfl) (by kernel_rfl) (by kernel_rfl) (fun _ _ _ h => h) (Or.inl ⟨by first | rfl | (go_simp; done), ?yb6⟩) (by assumption) ?rb6
    case yb6 => intro w' hSw; (try dsimp only at hSw); go_simp; try (with_reducible rfl)
    go_simp
    refine wpAnyH_take (i := 7) (v := ?vb7) rfl (by kernel_rfl) (by kernel_rfl) (by kernel_rfl) (fun _ _ _ h => h) (Or.inl ⟨by rfl, ?yb7⟩) (by assumption) ?rb7
    case yb7 => intro w' hSw; (try dsimp only at hSw); go_simp; try (with_reducible rfl)
    go_simp
    refine wpAnyH_take (i := 8) (v := ?vb8) rfl (by kernel_rfl) (by kernel_rfl) (by kernel_rfl) (fun _ _ _ h => h) (Or.inl ⟨by rfl, ?yb8⟩) (by assumption) ?rb8
    case yb8 => intro w' hSw; (try dsimp only at hSw); go_simp; try (with_reducible rfl)
    go_simp
    refine wpAnyH_take (i := 9) (v := undef) rfl (by kernel_rfl) (by kernel_rfl) (by kernel_rfl) (fun _ _ _ h => h) (Or.inr ⟨by go_simp, rfl⟩) (by assumption) ?_
    go_simp
    refine wpAnyH_take (i := 10) (v := undef) rfl (by kernel_rfl) (by kernel_rfl) (by kernel_rfl) (fun _ _ _ h => h) (Or.inr ⟨by go_simp, rfl⟩) (by assumption) ?_
    go_simp
    refine wpAnyH_take (i := 11) (v := undef) rfl (by kernel_rfl) (by kernel_rfl) (by kernel_rfl) (fun _ _ _ h => h) (Or.inr ⟨by go_simp, rfl⟩) (by assumption) ?_
    go_simp
    refine wpAnyH_take (i := 12) (v := undef) rfl (by kernel_rfl) (by kernel_rfl) (by kernel_rfl) (fun _ _ _ h => h) (Or.inr ⟨by go_simp, rfl⟩) (by assumption) ?_
    go_simp
    refine wpAnyH_take (i := 13) (v := ?vb13) rfl (by kernel_rfl) (by kernel_rfl) (by kernel_rfl) (fun _ _ _ h => h) (Or.inl ⟨by rfl, ?yb13⟩) (by assumption) ?rb13
    case yb13 => intro w' hSw; (try dsimp only at hSw); go_simp; try (with_reducible rfl)
    go_simp
    refine wpAnyH_take (i := 14) (v := ?vb14) rfl (by kernel_rfl) (by kernel_rfl) (by kernel_rfl) (fun _ _ _ h => h) (Or.inl ⟨by rfl, ?yb14⟩) (by assumption) ?rb14
    case yb14 => intro w' hSw; (try dsimp only at hSw); go_simp; try (with_reducible rfl)
    go_simp
    refine wpAnyH_take (i := 15) (v := undef) rfl (by kernel_rfl) (by kernel_rfl) (by kernel_rfl) (fun _ _ _ h => h) (Or.inr ⟨by go_simp, rfl⟩) (by assumption) ?_
    go_simp
    refine wpAnyH_take (i := 16) (v := undef) rfl (by kernel_rfl) (by kernel_rfl) (by kernel_rfl) (fun _ _ _ h => h) (Or.inr ⟨by go_simp, rfl⟩) (by assumption) ?_
    go_simp
    refine wpAnyH_take (i := 17) (v := ?vb17) rfl (by kernel_rfl) (by kernel_rfl) (by kernel_rfl) (fun _ _ _ h => h) (Or.inl ⟨by rfl, ?yb17⟩) (by assumption) ?rb17
    case yb17 => intro w' hSw; (try dsimp only at hSw); go_simp; try (with_reducible rfl)
    go_simp
    refine wpAnyH_take (i := 18) (v := ?vb18) rfl (by kernel_rfl) (by kernel_rfl) (by kernel_rfl) (fun _ _ _ h => h) (Or.inl ⟨by rfl, ?yb18⟩) (by assumption) ?rb18
    case yb18 => intro w' hSw; (try dsimp only at hSw); go_simp; try (with_reducible rfl)
    go_simp
    refine wpAnyH_take (i := 19) (v := undef) rfl (by kernel_rfl) (by kernel_rfl) (by kernel_rfl) (fun _ _ _ h => h) (Or.inr ⟨by go_simp, rfl⟩) (by assumption) ?_
    go_simp
    refine wpAnyH_take (i := 20) (v := undef) rfl (by kernel_rfl) (by kernel_rfl) (by kernel_rfl) (fun _ _ _ h => h) (Or.inr ⟨by go_simp, rfl⟩) (by assumption) ?_
    go_simp
    refine wpAnyH_take (i := 21) (v := ?vb21) rfl (by kernel_rfl) (by kernel_rfl) (by kernel_rfl) (fun _ _ _ h => h) (Or.inl ⟨by rfl, ?yb21⟩) (by assumption) ?rb21
    case yb21 => intro w' hSw; (try dsimp only at hSw); go_simp; try (with_reducible rfl)
    go_simp
    refine wpAnyH_take (i := 22) (v := ?vb22) rfl (by kernel_rfl) (by kernel_rfl) (by kernel_rfl) (fun _ _ _ h => h) (Or.inl ⟨by rfl, ?yb22⟩) (by assumption) ?rb22
    case yb22 => intro w' hSw; (try dsimp only at hSw); go_simp; try (with_reducible rfl)
    go_simp
    refine wpAnyH_take (i := 23) (v := undef) rfl (by kernel_rfl) (by kernel_rfl) (by kernel_rfl) (fun _ _ _ h => h) (Or.inr ⟨by go_simp, rfl⟩) (by assumption) ?_
    go_simp
    refine wpAnyH_take (i := 24) (v := undef) rfl (by kernel_rfl) (by kernel_rfl) (by kernel_rfl) (fun _ _ _ h => h) (Or.inr ⟨by go_simp, rfl⟩) (by assumption) ?_
    go_simp
    refine wpAnyH_take (i := 25) (v := undef) rfl (by kernel_rfl) (by kernel_rfl) (by kernel_rfl) (fun _ _ _ h => h) (Or.inr ⟨by go_simp, rfl⟩) (by assumption) ?_
    go_simp
    refine wpAnyH_take (i := 26) (v := undef) rfl (by kernel_rfl) (by kernel_rfl) (by kernel_rfl) (fun _ _ _ h => h) (Or.inr ⟨by go_simp, rfl⟩) (by assumption) ?_
    go_simp
    refine wpAnyH_take (i := 27) (v := undef) rfl (by kernel_rfl) (by kernel_rfl) (by kernel_rfl) (fun _ _ _ h => h) (Or.inr ⟨by go_simp, rfl⟩) (by assumption) ?_
    go_simp
    refine wpAnyH_take (i := 28) (v := undef) rfl (by kernel_rfl) (by kernel_rfl) (by kernel_rfl) (fun _ _ _ h => h) (Or.inr ⟨by go_simp, rfl⟩) (by assumption) ?_
    go_simp
    refine wpAnyH_take (i := 29) (v := undef) rfl (by kernel_rfl) (by kernel_rfl) (by kernel_rfl) (fun _ _ _ h => h) (Or.inr ⟨by go_simp, rfl⟩) (by assumption) ?_
    go_simp
    refine wpAnyH_take (i := 30) (v := undef) rfl (by kernel_rfl) (by kernel_rfl) (by kernel_rfl) (fun _ _ _ h => h) (Or.inr ⟨by go_simp, rfl⟩) (by assumption) ?_
    go_simp
    refine wpAnyH_take (i := 31) (v := undef) rfl (by kernel_rfl) (by kernel_rfl) (by kernel_rfl) (fun _ _ _ h => h) (Or.inr ⟨by go_simp, rfl⟩) (by assumption) ?_
    go_simp
    refine wpAnyH_take (i := 32) (v := undef) rfl (by kernel_rfl) (by kernel_rfl) (by kernel_rfl) (fun _ _ _ h => h) (Or.inr ⟨by go_simp, rfl⟩) (by assumption) ?_
    go_simp
    refine wpAnyH_take (i := 33) (v := undef) rfl (by kernel_rfl) (by kernel_rfl) (by kernel_rfl) (fun _ _ _ h => h) (Or.inr ⟨by go_simp, rfl⟩) (by assumption) ?_
    go_simp
    refine wpAnyH_take (i := 34) (v := ?vb34) rfl (by kernel_rfl) (by kernel_rfl) (by kernel_rfl) (fun _ _ _ h => h) (Or.inl ⟨by rfl, ?yb34⟩) (by assumption) ?rb34
    case yb34 => intro w' hSw; (try dsimp only at hSw); go_simp; try (with_reducible rfl)
    go_simp
    refine wpAnyH_done (by kernel_rfl) ?_ _
    go_wp2
    go_ret
    exact ⟨ret_bool HF.out.symm, below_on HB.out HN.out (by go_grown)⟩
  have hd1 : decide (8 < t.states) = false := by simpa using hs1
  cases hh : hoodOk t.hood
  · have HF : Hid (rightT t = false) := by show _ = _; simp [rightT, hh]
    go_enter Tryd.func15, Tryd.ntmps15
    go_wp2_with fail
    have RA : Hid (Row (World.alloc w _) w.heap.size 31 [.int .i64 t.states, .slice HA hn hc, .slice NA nn nc]) := Row.new w 31 [.int .i64 t.states, .slice HA hn hc, .slice NA nn nc]
    have HB : Hid (Below w.heap.size w (World.alloc w (.cells #[.int .i64 t.states, .slice HA hn hc, .slice NA nn nc] 31))) := by show Below _ _ _; go_grown
    revert RA HB
    generalize World.alloc w (.cells #[.int .i64 t.states, .slice HA hn hc, .slice NA nn nc] 31) = w1
    intro RA HB
    have hu : undef = Value.tuple #[] := rfl
    have HH : Hid (Rd w1 w1.heap.size 2 HA hn (hoodCells t.hood)) := H.out.hood.up HB.out
    have HN : Hid (Below w1.heap.size w1 w1) := Below.refl _ _
    have hbox : w.heap.size < w1.heap.size := RA.out.lt
    have HS : ∀ w', Below w1.heap.size w1 w' → w'.cell? ⟨w.heap.size, 0, none⟩ = some (.int .i64 t.states) ∧ w'.cell? ⟨w.heap.size, 1, none⟩ = some (.slice HA hn hc) ∧ w'.cell? ⟨w.heap.size, 2, none⟩ = some (.slice NA nn nc) := fun w' hw => ⟨(rowCells RA.out hw).cell 0, (rowCells RA.out hw).cell 1, (rowCells RA.out hw).cell 2⟩
    clear RA
    refine wp_region_held_drew (S := fun w' => w'.cell? ⟨w.heap.size, 0, none⟩ = some (.int .i64 t.states) ∧ w'.cell? ⟨w.heap.size, 1, none⟩ = some (.slice HA hn hc) ∧ w'.cell? ⟨w.heap.size, 2, none⟩ = some (.slice NA nn nc)) (by kernel_rfl) (by (try dsimp only); exact HS _ (by first | exact below_on2 HN.out (by go_grown) | go_grown)) (fun hHeld => ?_)
    refine wpAnyH_take (i := 0) (v := ?vc0) rfl (by kernel_rfl) (by kernel_rfl) (by kernel_rfl) (fun _ _ _ h => h) (Or.inl ⟨by rfl, ?yc0⟩) (by assumption) ?rc0
    case yc0 => intro w' hSw; (try dsimp only at hSw); go_simp; try (with_reducible rfl)
    go_simp
    refine wpAnyH_take (i := 1) (v := ?vc1) rfl (by kernel_rfl) (by kernel_rfl) (by kernel_rfl) (fun _ _ _ h => h) (Or.inl ⟨by rfl, ?yc1⟩) (by assumption) ?rc1
    case yc1 => intro w' hSw; (try dsimp only at hSw); go_simp; try (with_reducible rfl)
    go_simp
    refine wpAnyH_take (i := 2) (v := ?vc2) rfl (by kernel_rfl) (by kernel_rfl) (by kernel_rfl) (fun _ _ _ h => h) (Or.inl ⟨by rfl, ?yc2⟩) (by assumption) ?rc2
    case yc2 => intro w' hSw; (try dsimp only at hSw); go_simp; try (with_reducible rfl)
    go_simp
    refine wpAnyH_take (i := 3) (v := ?vc3) rfl (by kernel_rfl) (by kernel_rfl) (by kernel_rfl) (fun _ _ _ h => h) (Or.inl ⟨by rfl, ?yc3⟩) (by assumption) ?rc3
    case yc3 => intro w' hSw; (try dsimp only at hSw); go_simp; try (with_reducible rfl)
    go_simp
    refine wpAnyH_take (i := 4) (v := ?vc4) rfl (by kernel_rfl) (by kernel_rfl) (by kernel_rfl) (fun _ _ _ h => h) (Or.inl ⟨by first | rfl | (go_simp; done), ?yc4⟩) (by assumption) ?rc4
    case yc4 => intro w' hSw; (try dsimp only at hSw); go_simp; try (with_reducible rfl)
    go_simp
    refine wpAnyH_take (i := 5) (v := ?vc5) rfl (by kernel_rfl) (by kernel_rfl) (by kernel_rfl) (fun _ _ _ h => h) (Or.inl ⟨by first | rfl | (go_simp; done), ?yc5⟩) (by assumption) ?rc5
    case yc5 => intro w' hSw; (try dsimp only at hSw); go_simp; try (with_reducible rfl)
    go_simp
    refine wpAnyH_take (i := 6) (v := ?vc6) rfl (by kernel_rfl) (by kernel_rfl) (by kernel_rfl) (fun _ _ _ h => h) (Or.inl ⟨by first | rfl | (go_simp; done), ?yc6⟩) (by assumption) ?rc6
    case yc6 => intro w' hSw; (try dsimp only at hSw); go_simp; try (with_reducible rfl)
    go_simp
    refine wpAnyH_take (i := 7) (v := ?vc7) rfl (by kernel_rfl) (by kernel_rfl) (by kernel_rfl) (fun _ _ _ h => h) (Or.inl ⟨by rfl, ?yc7⟩) (by assumption) ?rc7
    case yc7 => intro w' hSw; (try dsimp only at hSw); go_simp; try (with_reducible rfl)
    go_simp
    refine wpAnyH_take (i := 8) (v := ?vc8) rfl (by kernel_rfl) (by kernel_rfl) (by kernel_rfl) (fun _ _ _ h => h) (Or.inl ⟨by rfl, ?yc8⟩) (by assumption) ?rc8
    case yc8 => intro w' hSw; (try dsimp only at hSw); go_simp; try (with_reducible rfl)
    go_simp
    refine wpAnyH_take (i := 9) (v := ?vc9) rfl (by kernel_rfl) (by kernel_rfl) (by kernel_rfl) (fun _ _ _ h => h) (Or.inl ⟨by first | rfl | (go_simp; done), ?yc9⟩) (by assumption) ?rc9
    case yc9 => intro w' hSw; (try dsimp only at hSw); go_simp; try (with_reducible rfl)
    go_simp
    refine wpAnyH_take (i := 10) (v := ?vc10) rfl (by kernel_rfl) (by kernel_rfl) (by kernel_rfl) (fun _ _ _ h => h) (Or.inl ⟨by first | rfl | (go_simp; done), ?yc10⟩) (by assumption) ?rc10
    case yc10 => intro w' hSw; (try dsimp only at hSw); go_simp; try (with_reducible rfl)
    go_simp
    refine wpAnyH_ready (rs := [11]) (by kernel_rfl) (by simp) ?_
    refine AllReadyH.cons rfl (fun K hK => ?_) AllReadyH.nil
    go_simp
    go_at_call 24
    refine (hoodRight_any t.hood HA hn hc _ (by exact HH.out.up (by first | exact below_on2 HN.out (by go_grown) | go_grown)) hm1).mono ?_
    rw [hh]
    rintro e w7 ⟨rfl, hb⟩
    have HN := (show Hid (Below w1.heap.size w1 w7) from below_on HN.out (by go_grown) hb)
    clear hb
    refine hK.out _ _ ?_ (fun hHeld => ?_)
    · (try dsimp only); exact HS _ (by first | exact below_on2 HN.out (by go_grown) | go_grown)
    clear hK K
    try go_simp
    refine wpAnyH_take (i := 12) (v := ?vc12) rfl (by kernel_rfl) (by kernel_rfl) (by kernel_rfl) (fun _ _ _ h => h) (Or.inl ⟨by first | rfl | (go_simp; done), ?yc12⟩) (by assumption) ?rc12
    case yc12 => intro w' hSw; (try dsimp only at hSw); go_simp; try (with_reducible rfl)
    go_simp
    refine wpAnyH_take (i := 13) (v := ?vc13) rfl (by kernel_rfl) (by kernel_rfl) (by kernel_rfl) (fun _ _ _ h => h) (Or.inl ⟨by rfl, ?yc13⟩) (by assumption) ?rc13
    case yc13 => intro w' hSw; (try dsimp only at hSw); go_simp; try (with_reducible rfl)
    go_simp
    refine wpAnyH_take (i := 14) (v := ?vc14) rfl (by kernel_rfl) (by kernel_rfl) (by kernel_rfl) (fun _ _ _ h => h) (Or.inl ⟨by rfl, ?yc14⟩) (by assumption) ?rc14
    case yc14 => intro w' hSw; (try dsimp only at hSw); go_simp; try (with_reducible rfl)
    go_simp
    refine wpAnyH_take (i := 15) (v := undef) rfl (by kernel_rfl) (by kernel_rfl) (by kernel_rfl) (fun _ _ _ h => h) (Or.inr ⟨by go_simp, rfl⟩) (by assumption) ?_
    go_simp
    refine wpAnyH_take (i := 16) (v := undef) rfl (by kernel_rfl) (by kernel_rfl) (by kernel_rfl) (fun _ _ _ h => h) (Or.inr ⟨by go_simp, rfl⟩) (by assumption) ?_
    go_simp
    refine wpAnyH_take (i := 17) (v := ?vc17) rfl (by kernel_rfl) (by kernel_rfl) (by kernel_rfl) (fun _ _ _ h => h) (Or.inl ⟨by rfl, ?yc17⟩) (by assumption) ?rc17
    case yc17 => intro w' hSw; (try dsimp only at hSw); go_simp; try (with_reducible rfl)
    go_simp
    refine wpAnyH_take (i := 18) (v := ?vc18) rfl (by kernel_rfl) (by kernel_rfl) (by kernel_rfl) (fun _ _ _ h => h) (Or.inl ⟨by rfl, ?yc18⟩) (by assumption) ?rc18
    case yc18 => intro w' hSw; (try dsimp only at hSw); go_simp; try (with_reducible rfl)
    go_simp
    refine wpAnyH_take (i := 19) (v := undef) rfl (by kernel_rfl) (by kernel_rfl) (by kernel_rfl) (fun _ _ _ h => h) (Or.inr ⟨by go_simp, rfl⟩) (by assumption) ?_
    go_simp
    refine wpAnyH_take (i := 20) (v := undef) rfl (by kernel_rfl) (by kernel_rfl) (by kernel_rfl) (fun _ _ _ h => h) (Or.inr ⟨by go_simp, rfl⟩) (by assumption) ?_
    go_simp
    refine wpAnyH_take (i := 21) (v := ?vc21) rfl (by kernel_rfl) (by kernel_rfl) (by kernel_rfl) (fun _ _ _ h => h) (Or.inl ⟨by rfl, ?yc21⟩) (by assumption) ?rc21
    case yc21 => intro w' hSw; (try dsimp only at hSw); go_simp; try (with_reducible rfl)
    go_simp
    refine wpAnyH_take (i := 22) (v := ?vc22) rfl (by kernel_rfl) (by kernel_rfl) (by kernel_rfl) (fun _ _ _ h => h) (Or.inl ⟨by rfl, ?yc22⟩) (by assumption) ?rc22
    case yc22 => intro w' hSw; (try dsimp only at hSw); go_simp; try (with_reducible rfl)
    go_simp
    refine wpAnyH_take (i := 23) (v := undef) rfl (by kernel_rfl) (by kernel_rfl) (by kernel_rfl) (fun _ _ _ h => h) (Or.inr ⟨by go_simp, rfl⟩) (by assumption) ?_
    go_simp
    refine wpAnyH_take (i := 24) (v := undef) rfl (by kernel_rfl) (by kernel_rfl) (by kernel_rfl) (fun _ _ _ h => h) (Or.inr ⟨by go_simp, rfl⟩) (by assumption) ?_
    go_simp
    refine wpAnyH_take (i := 25) (v := undef) rfl (by kernel_rfl) (by kernel_rfl) (by kernel_rfl) (fun _ _ _ h => h) (Or.inr ⟨by go_simp, rfl⟩) (by assumption) ?_
    go_simp
    refine wpAnyH_take (i := 26) (v := undef) rfl (by kernel_rfl) (by kernel_rfl) (by kernel_rfl) (fun _ _ _ h => h) (Or.inr ⟨by go_simp, rfl⟩) (by assumption) ?_
    go_simp
    refine wpAnyH_take (i := 27) (v := undef) rfl (by kernel_rfl) (by kernel_rfl) (by kernel_rfl) (fun _ _ _ h => h) (Or.inr ⟨by go_simp, rfl⟩) (by assumption) ?_
    go_simp
    refine wpAnyH_take (i := 28) (v := undef) rfl (by kernel_rfl) (by kernel_rfl) (by kernel_rfl) (fun _ _ _ h => h) (Or.inr ⟨by go_simp, rfl⟩) (by assumption) ?_
    go_simp
    refine wpAnyH_take (i := 29) (v := undef) rfl (by kernel_rfl) (by kernel_rfl) (by kernel_rfl) (fun _ _ _ h => h) (Or.inr ⟨by go_simp, rfl⟩) (by assumption) ?_
    go_simp
    refine wpAnyH_take (i := 30) (v := undef) rfl (by kernel_rfl) (by kernel_rfl) (by kernel_rfl) (fun _ _ _ h => h) (Or.inr ⟨by go_simp, rfl⟩) (by assumption) ?_
    go_simp
    refine wpAnyH_take (i := 31) (v := undef) rfl (by kernel_rfl) (by kernel_rfl) (by kernel_rfl) (fun _ _ _ h => h) (Or.inr ⟨by go_simp, rfl⟩) (by assumption) ?_
    go_simp
    refine wpAnyH_take (i := 32) (v := undef) rfl (by kernel_rfl) (by kernel_rfl) (by kernel_rfl) (fun _ _ _ h => h) (Or.inr ⟨by go_simp, rfl⟩) (by assumption) ?_
    go_simp
    refine wpAnyH_take (i := 33) (v := undef) rfl (by kernel_rfl) (by kernel_rfl) (by kernel_rfl) (fun _ _ _ h => h) (Or.inr ⟨by go_simp, rfl⟩) (by assumption) ?_
    go_simp
    refine wpAnyH_take (i := 34) (v := ?vc34) rfl (by kernel_rfl) (by kernel_rfl) (by kernel_rfl) (fun _ _ _ h => h) (Or.inl ⟨by rfl, ?yc34⟩) (by assumption) ?rc34
    case yc34 => intro w' hSw; (try dsimp only at hSw); go_simp; try (with_reducible rfl)
    go_simp
    refine wpAnyH_done (by kernel_rfl) ?_ _
    go_wp2
    go_ret
    exact ⟨ret_bool HF.out.symm, below_on HB.out HN.out (by go_grown)⟩
  by_cases hv0 : (nn : Int) < 1
  · have HF : Hid (rightT t = false) := rightT_head (decide_eq_false (by rw [HL.out]; omega))
    have he0 : decide ((nn : Int) < 1) = true := by simpa using hv0
    go_enter Tryd.func15, Tryd.ntmps15
    go_wp2_with fail
    have RA : Hid (Row (World.alloc w _) w.heap.size 31 [.int .i64 t.states, .slice HA hn hc, .slice NA nn nc]) := Row.new w 31 [.int .i64 t.states, .slice HA hn hc, .slice NA nn nc]
    have HB : Hid (Below w.heap.size w (World.alloc w (.cells #[.int .i64 t.states, .slice HA hn hc, .slice NA nn nc] 31))) := by show Below _ _ _; go_grown
    revert RA HB
    generalize World.alloc w (.cells #[.int .i64 t.states, .slice HA hn hc, .slice NA nn nc] 31) = w1
    intro RA HB
    have hu : undef = Value.tuple #[] := rfl
    have HH : Hid (Rd w1 w1.heap.size 2 HA hn (hoodCells t.hood)) := H.out.hood.up HB.out
    have HN : Hid (Below w1.heap.size w1 w1) := Below.refl _ _
    have hbox : w.heap.size < w1.heap.size := RA.out.lt
    have HS : ∀ w', Below w1.heap.size w1 w' → w'.cell? ⟨w.heap.size, 0, none⟩ = some (.int .i64 t.states) ∧ w'.cell? ⟨w.heap.size, 1, none⟩ = some (.slice HA hn hc) ∧ w'.cell? ⟨w.heap.size, 2, none⟩ = some (.slice NA nn nc) := fun w' hw => ⟨(rowCells RA.out hw).cell 0, (rowCells RA.out hw).cell 1, (rowCells RA.out hw).cell 2⟩
    clear RA
    refine wp_region_held_drew (S := fun w' => w'.cell? ⟨w.heap.size, 0, none⟩ = some (.int .i64 t.states) ∧ w'.cell? ⟨w.heap.size, 1, none⟩ = some (.slice HA hn hc) ∧ w'.cell? ⟨w.heap.size, 2, none⟩ = some (.slice NA nn nc)) (by kernel_rfl) (by (try dsimp only); exact HS _ (by first | exact below_on2 HN.out (by go_grown) | go_grown)) (fun hHeld => ?_)
    refine wpAnyH_take (i := 0) (v := ?vd0) rfl (by kernel_rfl) (by kernel_rfl) (by kernel_rfl) (fun _ _ _ h => h) (Or.inl ⟨by rfl, ?yd0⟩) (by assumption) ?rd0
    case yd0 => intro w' hSw; (try dsimp only at hSw); go_simp; try (with_reducible rfl)
    go_simp
    refine wpAnyH_take (i := 1) (v := ?vd1) rfl (by kernel_rfl) (by kernel_rfl) (by kernel_rfl) (fun _ _ _ h => h) (Or.inl ⟨by rfl, ?yd1⟩) (by assumption) ?rd1
    case yd1 => intro w' hSw; (try dsimp only at hSw); go_simp; try (with_reducible rfl)
    go_simp
    refine wpAnyH_take (i := 2) (v := ?vd2) rfl (by kernel_rfl) (by kernel_rfl) (by kernel_rfl) (fun _ _ _ h => h) (Or.inl ⟨by rfl, ?yd2⟩) (by assumption) ?rd2
    case yd2 => intro w' hSw; (try dsimp only at hSw); go_simp; try (with_reducible rfl)
    go_simp
    refine wpAnyH_take (i := 3) (v := ?vd3) rfl (by kernel_rfl) (by kernel_rfl) (by kernel_rfl) (fun _ _ _ h => h) (Or.inl ⟨by rfl, ?yd3⟩) (by assumption) ?rd3
    case yd3 => intro w' hSw; (try dsimp only at hSw); go_simp; try (with_reducible rfl)
    go_simp
    refine wpAnyH_take (i := 4) (v := ?vd4) rfl (by kernel_rfl) (by kernel_rfl) (by kernel_rfl) (fun _ _ _ h => h) (Or.inl ⟨by first | rfl | (go_simp; done), ?yd4⟩) (by assumption) ?rd4
    case yd4 => intro w' hSw; (try dsimp only at hSw); go_simp; try (with_reducible rfl)
    go_simp
    refine wpAnyH_take (i := 5) (v := ?vd5) rfl (by kernel_rfl) (by kernel_rfl) (by kernel_rfl) (fun _ _ _ h => h) (Or.inl ⟨by first | rfl | (go_simp; done), ?yd5⟩) (by assumption) ?rd5
    case yd5 => intro w' hSw; (try dsimp only at hSw); go_simp; try (with_reducible rfl)
    go_simp
    refine wpAnyH_take (i := 6) (v := ?vd6) rfl (by kernel_rfl) (by kernel_rfl) (by kernel_rfl) (fun _ _ _ h => h) (Or.inl ⟨by first | rfl | (go_simp; done), ?yd6⟩) (by assumption) ?rd6
    case yd6 => intro w' hSw; (try dsimp only at hSw); go_simp; try (with_reducible rfl)
    go_simp
    refine wpAnyH_take (i := 7) (v := ?vd7) rfl (by kernel_rfl) (by kernel_rfl) (by kernel_rfl) (fun _ _ _ h => h) (Or.inl ⟨by rfl, ?yd7⟩) (by assumption) ?rd7
    case yd7 => intro w' hSw; (try dsimp only at hSw); go_simp; try (with_reducible rfl)
    go_simp
    refine wpAnyH_take (i := 8) (v := ?vd8) rfl (by kernel_rfl) (by kernel_rfl) (by kernel_rfl) (fun _ _ _ h => h) (Or.inl ⟨by rfl, ?yd8⟩) (by assumption) ?rd8
    case yd8 => intro w' hSw; (try dsimp only at hSw); go_simp; try (with_reducible rfl)
    go_simp
    refine wpAnyH_take (i := 9) (v := ?vd9) rfl (by kernel_rfl) (by kernel_rfl) (by kernel_rfl) (fun _ _ _ h => h) (Or.inl ⟨by first | rfl | (go_simp; done), ?yd9⟩) (by assumption) ?rd9
    case yd9 => intro w' hSw; (try dsimp only at hSw); go_simp; try (with_reducible rfl)
    go_simp
    refine wpAnyH_take (i := 10) (v := ?vd10) rfl (by kernel_rfl) (by kernel_rfl) (by kernel_rfl) (fun _ _ _ h => h) (Or.inl ⟨by first | rfl | (go_simp; done), ?yd10⟩) (by assumption) ?rd10
    case yd10 => intro w' hSw; (try dsimp only at hSw); go_simp; try (with_reducible rfl)
    go_simp
    refine wpAnyH_ready (rs := [11]) (by kernel_rfl) (by simp) ?_
    refine AllReadyH.cons rfl (fun K hK => ?_) AllReadyH.nil
    go_simp
    go_at_call 24
    refine (hoodRight_any t.hood HA hn hc _ (by exact HH.out.up (by first | exact below_on2 HN.out (by go_grown) | go_grown)) hm1).mono ?_
    rw [hh]
    rintro e w7 ⟨rfl, hb⟩
    have HN := (show Hid (Below w1.heap.size w1 w7) from below_on HN.out (by go_grown) hb)
    clear hb
    refine hK.out _ _ ?_ (fun hHeld => ?_)
    · (try dsimp only); exact HS _ (by first | exact below_on2 HN.out (by go_grown) | go_grown)
    clear hK K
    try go_simp
    refine wpAnyH_take (i := 12) (v := ?vd12) rfl (by kernel_rfl) (by kernel_rfl) (by kernel_rfl) (fun _ _ _ h => h) (Or.inl ⟨by first | rfl | (go_simp; done), ?yd12⟩) (by assumption) ?rd12
    case yd12 => intro w' hSw; (try dsimp only at hSw); go_simp; try (with_reducible rfl)
    go_simp
    refine wpAnyH_take (i := 13) (v := ?vd13) rfl (by kernel_rfl) (by kernel_rfl) (by kernel_rfl) (fun _ _ _ h => h) (Or.inl ⟨by rfl, ?yd13⟩) (by assumption) ?rd13
    case yd13 => intro w' hSw; (try dsimp only at hSw); go_simp; try (with_reducible rfl)
    go_simp
    refine wpAnyH_take (i := 14) (v := ?vd14) rfl (by kernel_rfl) (by kernel_rfl) (by kernel_rfl) (fun _ _ _ h => h) (Or.inl ⟨by rfl, ?yd14⟩) (by assumption) ?rd14
    case yd14 => intro w' hSw; (try dsimp only at hSw); go_simp; try (with_reducible rfl)
    go_simp
    refine wpAnyH_take (i := 15) (v := ?vd15) rfl (by kernel_rfl) (by kernel_rfl) (by kernel_rfl) (fun _ _ _ h => h) (Or.inl ⟨by first | rfl | (go_simp; done), ?yd15⟩) (by assumption) ?rd15
    case yd15 => intro w' hSw; (try dsimp only at hSw); go_simp; try (with_reducible rfl)
    go_simp
    refine wpAnyH_take (i := 16) (v := ?vd16) rfl (by kernel_rfl) (by kernel_rfl) (by kernel_rfl) (fun _ _ _ h => h) (Or.inl ⟨by first | rfl | (go_simp; done), ?yd16⟩) (by assumption) ?rd16
    case yd16 => intro w' hSw; (try dsimp only at hSw); go_simp; try (with_reducible rfl)
    go_simp
    refine wpAnyH_take (i := 17) (v := ?vd17) rfl (by kernel_rfl) (by kernel_rfl) (by kernel_rfl) (fun _ _ _ h => h) (Or.inl ⟨by rfl, ?yd17⟩) (by assumption) ?rd17
    case yd17 => intro w' hSw; (try dsimp only at hSw); go_simp; try (with_reducible rfl)
    go_simp
    refine wpAnyH_take (i := 18) (v := ?vd18) rfl (by kernel_rfl) (by kernel_rfl) (by kernel_rfl) (fun _ _ _ h => h) (Or.inl ⟨by rfl, ?yd18⟩) (by assumption) ?rd18
    case yd18 => intro w' hSw; (try dsimp only at hSw); go_simp; try (with_reducible rfl)
    go_simp
    refine wpAnyH_take (i := 19) (v := undef) rfl (by kernel_rfl) (by kernel_rfl) (by kernel_rfl) (fun _ _ _ h => h) (Or.inr ⟨by go_simp, rfl⟩) (by assumption) ?_
    go_simp
    refine wpAnyH_take (i := 20) (v := undef) rfl (by kernel_rfl) (by kernel_rfl) (by kernel_rfl) (fun _ _ _ h => h) (Or.inr ⟨by go_simp, rfl⟩) (by assumption) ?_
    go_simp
    refine wpAnyH_take (i := 21) (v := ?vd21) rfl (by kernel_rfl) (by kernel_rfl) (by kernel_rfl) (fun _ _ _ h => h) (Or.inl ⟨by rfl, ?yd21⟩) (by assumption) ?rd21
    case yd21 => intro w' hSw; (try dsimp only at hSw); go_simp; try (with_reducible rfl)
    go_simp
    refine wpAnyH_take (i := 22) (v := ?vd22) rfl (by kernel_rfl) (by kernel_rfl) (by kernel_rfl) (fun _ _ _ h => h) (Or.inl ⟨by rfl, ?yd22⟩) (by assumption) ?rd22
    case yd22 => intro w' hSw; (try dsimp only at hSw); go_simp; try (with_reducible rfl)
    go_simp
    refine wpAnyH_take (i := 23) (v := undef) rfl (by kernel_rfl) (by kernel_rfl) (by kernel_rfl) (fun _ _ _ h => h) (Or.inr ⟨by go_simp, rfl⟩) (by assumption) ?_
    go_simp
    refine wpAnyH_take (i := 24) (v := undef) rfl (by kernel_rfl) (by kernel_rfl) (by kernel_rfl) (fun _ _ _ h => h) (Or.inr ⟨by go_simp, rfl⟩) (by assumption) ?_
    go_simp
    refine wpAnyH_take (i := 25) (v := undef) rfl (by kernel_rfl) (by kernel_rfl) (by kernel_rfl) (fun _ _ _ h => h) (Or.inr ⟨by go_simp, rfl⟩) (by assumption) ?_
    go_simp
    refine wpAnyH_take (i := 26) (v := undef) rfl (by kernel_rfl) (by kernel_rfl) (by kernel_rfl) (fun _ _ _ h => h) (Or.inr ⟨by go_simp, rfl⟩) (by assumption) ?_
    go_simp
    refine wpAnyH_take (i := 27) (v := undef) rfl (by kernel_rfl) (by kernel_rfl) (by kernel_rfl) (fun _ _ _ h => h) (Or.inr ⟨by go_simp, rfl⟩) (by assumption) ?_
    go_simp
    refine wpAnyH_take (i := 28) (v := undef) rfl (by kernel_rfl) (by kernel_rfl) (by kernel_rfl) (fun _ _ _ h => h) (Or.inr ⟨by go_simp, rfl⟩) (by assumption) ?_
    go_simp
    refine wpAnyH_take (i := 29) (v := undef) rfl (by kernel_rfl) (by kernel_rfl) (by kernel_rfl) (fun _ _ _ h => h) (Or.inr ⟨by go_simp, rfl⟩) (by assumption) ?_
    go_simp
    refine wpAnyH_take (i := 30) (v := undef) rfl (by kernel_rfl) (by kernel_rfl) (by kernel_rfl) (fun _ _ _ h => h) (Or.inr ⟨by go_simp, rfl⟩) (by assumption) ?_
    go_simp
    refine wpAnyH_take (i := 31) (v := undef) rfl (by kernel_rfl) (by kernel_rfl) (by kernel_rfl) (fun _ _ _ h => h) (Or.inr ⟨by go_simp, rfl⟩) (by assumption) ?_
    go_simp
    refine wpAnyH_take (i := 32) (v := undef) rfl (by kernel_rfl) (by kernel_rfl) (by kernel_rfl) (fun _ _ _ h => h) (Or.inr ⟨by go_simp, rfl⟩) (by assumption) ?_
    go_simp
    refine wpAnyH_take (i := 33) (v := undef) rfl (by kernel_rfl) (by kernel_rfl) (by kernel_rfl) (fun _ _ _ h => h) (Or.inr ⟨by go_simp, rfl⟩) (by assumption) ?_
    go_simp
    refine wpAnyH_take (i := 34) (v := ?vd34) rfl (by kernel_rfl) (by kernel_rfl) (by kernel_rfl) (fun _ _ _ h => h) (Or.inl ⟨by rfl, ?yd34⟩) (by assumption) ?rd34
    case yd34 => intro w' hSw; (try dsimp only at hSw); go_simp; try (with_reducible rfl)
    go_simp
    refine wpAnyH_done (by kernel_rfl) ?_ _
    go_wp2
    go_ret
    exact ⟨ret_bool HF.out.symm, below_on HB.out HN.out (by go_grown)⟩
  have he0 : decide ((nn : Int) < 1) = false := by simpa using hv0
  by_cases hv1 : 4096 < (nn : Int)
  · have HF : Hid (rightT t = false) := rightT_head (decide_eq_false (by rw [HL.out]; omega))
    have he1 : decide (4096 < (nn : Int)) = true := by simpa using hv1
    go_enter Tryd.func15, Tryd.ntmps15
    go_wp2_with fail
    have RA : Hid (Row (World.alloc w _) w.heap.size 31 [.int .i64 t.states, .slice HA hn hc, .slice NA nn nc]) := Row.new w 31 [.int .i64 t.states, .slice HA hn hc, .slice NA nn nc]
    have HB : Hid (Below w.heap.size w (World.alloc w (.cells #[.int .i64 t.states, .slice HA hn hc, .slice NA nn nc] 31))) := by show Below _ _ _; go_grown
    revert RA HB
    generalize World.alloc w (.cells #[.int .i64 t.states, .slice HA hn hc, .slice NA nn nc] 31) = w1
    intro RA HB
    have hu : undef = Value.tuple #[] := rfl
    have HH : Hid (Rd w1 w1.heap.size 2 HA hn (hoodCells t.hood)) := H.out.hood.up HB.out
    have HN : Hid (Below w1.heap.size w1 w1) := Below.refl _ _
    have hbox : w.heap.size < w1.heap.size := RA.out.lt
    have HS : ∀ w', Below w1.heap.size w1 w' → w'.cell? ⟨w.heap.size, 0, none⟩ = some (.int .i64 t.states) ∧ w'.cell? ⟨w.heap.size, 1, none⟩ = some (.slice HA hn hc) ∧ w'.cell? ⟨w.heap.size, 2, none⟩ = some (.slice NA nn nc) := fun w' hw => ⟨(rowCells RA.out hw).cell 0, (rowCells RA.out hw).cell 1, (rowCells RA.out hw).cell 2⟩
    clear RA
    refine wp_region_held_drew (S := fun w' => w'.cell? ⟨w.heap.size, 0, none⟩ = some (.int .i64 t.states) ∧ w'.cell? ⟨w.heap.size, 1, none⟩ = some (.slice HA hn hc) ∧ w'.cell? ⟨w.heap.size, 2, none⟩ = some (.slice NA nn nc)) (by kernel_rfl) (by (try dsimp only); exact HS _ (by first | exact below_on2 HN.out (by go_grown) | go_grown)) (fun hHeld => ?_)
    refine wpAnyH_take (i := 0) (v := ?ve0) rfl (by kernel_rfl) (by kernel_rfl) (by kernel_rfl) (fun _ _ _ h => h) (Or.inl ⟨by rfl, ?ye0⟩) (by assumption) ?re0
    case ye0 => intro w' hSw; (try dsimp only at hSw); go_simp; try (with_reducible rfl)
    go_simp
    refine wpAnyH_take (i := 1) (v := ?ve1) rfl (by kernel_rfl) (by kernel_rfl) (by kernel_rfl) (fun _ _ _ h => h) (Or.inl ⟨by rfl, ?ye1⟩) (by assumption) ?re1
    case ye1 => intro w' hSw; (try dsimp only at hSw); go_simp; try (with_reducible rfl)
    go_simp
    refine wpAnyH_take (i := 2) (v := ?ve2) rfl (by kernel_rfl) (by kernel_rfl) (by kernel_rfl) (fun _ _ _ h => h) (Or.inl ⟨by rfl, ?ye2⟩) (by assumption) ?re2
    case ye2 => intro w' hSw; (try dsimp only at hSw); go_simp; try (with_reducible rfl)
    go_simp
    refine wpAnyH_take (i := 3) (v := ?ve3) rfl (by kernel_rfl) (by kernel_rfl) (by kernel_rfl) (fun _ _ _ h => h) (Or.inl ⟨by rfl, ?ye3⟩) (by assumption) ?re3
    case ye3 => intro w' hSw; (try dsimp only at hSw); go_simp; try (with_reducible rfl)
    go_simp
    refine wpAnyH_take (i := 4) (v := ?ve4) rfl (by kernel_rfl) (by kernel_rfl) (by kernel_rfl) (fun _ _ _ h => h) (Or.inl ⟨by first | rfl | (go_simp; done), ?ye4⟩) (by assumption) ?re4
    case ye4 => intro w' hSw; (try dsimp only at hSw); go_simp; try (with_reducible rfl)
    go_simp
    refine wpAnyH_take (i := 5) (v := ?ve5) rfl (by kernel_rfl) (by kernel_rfl) (by kernel_rfl) (fun _ _ _ h => h) (Or.inl ⟨by first | rfl | (go_simp; done), ?ye5⟩) (by assumption) ?re5
    case ye5 => intro w' hSw; (try dsimp only at hSw); go_simp; try (with_reducible rfl)
    go_simp
    refine wpAnyH_take (i := 6) (v := ?ve6) rfl (by kernel_rfl) (by kernel_rfl) (by kernel_rfl) (fun _ _ _ h => h) (Or.inl ⟨by first | rfl | (go_simp; done), ?ye6⟩) (by assumption) ?re6
    case ye6 => intro w' hSw; (try dsimp only at hSw); go_simp; try (with_reducible rfl)
    go_simp
    refine wpAnyH_take (i := 7) (v := ?ve7) rfl (by kernel_rfl) (by kernel_rfl) (by kernel_rfl) (fun _ _ _ h => h) (Or.inl ⟨by rfl, ?ye7⟩) (by assumption) ?re7
    case ye7 => intro w' hSw; (try dsimp only at hSw); go_simp; try (with_reducible rfl)
    go_simp
    refine wpAnyH_take (i := 8) (v := ?ve8) rfl (by kernel_rfl) (by kernel_rfl) (by kernel_rfl) (fun _ _ _ h => h) (Or.inl ⟨by rfl, ?ye8⟩) (by assumption) ?re8
    case ye8 => intro w' hSw; (try dsimp only at hSw); go_simp; try (with_reducible rfl)
    go_simp
    refine wpAnyH_take (i := 9) (v := ?ve9) rfl (by kernel_rfl) (by kernel_rfl) (by kernel_rfl) (fun _ _ _ h => h) (Or.inl ⟨by first | rfl | (go_simp; done), ?ye9⟩) (by assumption) ?re9
    case ye9 => intro w' hSw; (try dsimp only at hSw); go_simp; try (with_reducible rfl)
    go_simp
    refine wpAnyH_take (i := 10) (v := ?ve10) rfl (by kernel_rfl) (by kernel_rfl) (by kernel_rfl) (fun _ _ _ h => h) (Or.inl ⟨by first | rfl | (go_simp; done), ?ye10⟩) (by assumption) ?re10
    case ye10 => intro w' hSw; (try dsimp only at hSw); go_simp; try (with_reducible rfl)
    go_simp
    refine wpAnyH_ready (rs := [11]) (by kernel_rfl) (by simp) ?_
    refine AllReadyH.cons rfl (fun K hK => ?_) AllReadyH.nil
    go_simp
    go_at_call 24
    refine (hoodRight_any t.hood HA hn hc _ (by exact HH.out.up (by first | exact below_on2 HN.out (by go_grown) | go_grown)) hm1).mono ?_
    rw [hh]
    rintro e w7 ⟨rfl, hb⟩
    have HN := (show Hid (Below w1.heap.size w1 w7) from below_on HN.out (by go_grown) hb)
    clear hb
    refine hK.out _ _ ?_ (fun hHeld => ?_)
    · (try dsimp only); exact HS _ (by first | exact below_on2 HN.out (by go_grown) | go_grown)
    clear hK K
    try go_simp
    refine wpAnyH_take (i := 12) (v := ?ve12) rfl (by kernel_rfl) (by kernel_rfl) (by kernel_rfl) (fun _ _ _ h => h) (Or.inl ⟨by first | rfl | (go_simp; done), ?ye12⟩) (by assumption) ?re12
    case ye12 => intro w' hSw; (try dsimp only at hSw); go_simp; try (with_reducible rfl)
    go_simp
    refine wpAnyH_take (i := 13) (v := ?ve13) rfl (by kernel_rfl) (by kernel_rfl) (by kernel_rfl) (fun _ _ _ h => h) (Or.inl ⟨by rfl, ?ye13⟩) (by assumption) ?re13
    case ye13 => intro w' hSw; (try dsimp only at hSw); go_simp; try (with_reducible rfl)
    go_simp
    refine wpAnyH_take (i := 14) (v := ?ve14) rfl (by kernel_rfl) (by kernel_rfl) (by kernel_rfl) (fun _ _ _ h => h) (Or.inl ⟨by rfl, ?ye14⟩) (by assumption) ?re14
    case ye14 => intro w' hSw; (try dsimp only at hSw); go_simp; try (with_reducible rfl)
    go_simp
    refine wpAnyH_take (i := 15) (v := ?ve15) rfl (by kernel_rfl) (by kernel_rfl) (by kernel_rfl) (fun _ _ _ h => h) (Or.inl ⟨by first | rfl | (go_simp; done), ?ye15⟩) (by assumption) ?re15
    case ye15 => intro w' hSw; (try dsimp only at hSw); go_simp; try (with_reducible rfl)
    go_simp
    refine wpAnyH_take (i := 16) (v := ?ve16) rfl (by kernel_rfl) (by kernel_rfl) (by kernel_rfl) (fun _ _ _ h => h) (Or.inl ⟨by first | rfl | (go_simp; done), ?ye16⟩) (by assumption) ?re16
    case ye16 => intro w' hSw; (try dsimp only at hSw); go_simp; try (with_reducible rfl)
    go_simp
    refine wpAnyH_take (i := 17) (v := ?ve17) rfl (by kernel_rfl) (by kernel_rfl) (by kernel_rfl) (fun _ _ _ h => h) (Or.inl ⟨by rfl, ?ye17⟩) (by assumption) ?re17
    case ye17 => intro w' hSw; (try dsimp only at hSw); go_simp; try (with_reducible rfl)
    go_simp
    refine wpAnyH_take (i := 18) (v := ?ve18) rfl (by kernel_rfl) (by kernel_rfl) (by kernel_rfl) (fun _ _ _ h => h) (Or.inl ⟨by rfl, ?ye18⟩) (by assumption) ?re18
    case ye18 => intro w' hSw; (try dsimp only at hSw); go_simp; try (with_reducible rfl)
    go_simp
    refine wpAnyH_take (i := 19) (v := ?ve19) rfl (by kernel_rfl) (by kernel_rfl) (by kernel_rfl) (fun _ _ _ h => h) (Or.inl ⟨by first | rfl | (go_simp; done), ?ye19⟩) (by assumption) ?re19
    case ye19 => intro w' hSw; (try dsimp only at hSw); go_simp; try (with_reducible rfl)
    go_simp
    refine wpAnyH_take (i := 20) (v := ?ve20) rfl (by kernel_rfl) (by kernel_rfl) (by kernel_rfl) (fun _ _ _ h => h) (Or.inl ⟨by first | rfl | (go_simp; done), ?ye20⟩) (by assumption) ?re20
    case ye20 => intro w' hSw; (try dsimp only at hSw); go_simp; try (with_reducible rfl)
    go_simp
    refine wpAnyH_take (i := 21) (v := ?ve21) rfl (by kernel_rfl) (by kernel_rfl) (by kernel_rfl) (fun _ _ _ h => h) (Or.inl ⟨by rfl, ?ye21⟩) (by assumption) ?re21
    case ye21 => intro w' hSw; (try dsimp only at hSw); go_simp; try (with_reducible rfl)
    go_simp
    refine wpAnyH_take (i := 22) (v := ?ve22) rfl (by kernel_rfl) (by kernel_rfl) (by kernel_rfl) (fun _ _ _ h => h) (Or.inl ⟨by rfl, ?ye22⟩) (by assumption) ?re22
    case ye22 => intro w' hSw; (try dsimp only at hSw); go_simp; try (with_reducible rfl)
    go_simp
    refine wpAnyH_take (i := 23) (v := undef) rfl (by kernel_rfl) (by kernel_rfl) (by kernel_rfl) (fun _ _ _ h => h) (Or.inr ⟨by go_simp, rfl⟩) (by assumption) ?_
    go_simp
    refine wpAnyH_take (i := 24) (v := undef) rfl (by kernel_rfl) (by kernel_rfl) (by kernel_rfl) (fun _ _ _ h => h) (Or.inr ⟨by go_simp, rfl⟩) (by assumption) ?_
    go_simp
    refine wpAnyH_take (i := 25) (v := undef) rfl (by kernel_rfl) (by kernel_rfl) (by kernel_rfl) (fun _ _ _ h => h) (Or.inr ⟨by go_simp, rfl⟩) (by assumption) ?_
    go_simp
    refine wpAnyH_take (i := 26) (v := undef) rfl (by kernel_rfl) (by kernel_rfl) (by kernel_rfl) (fun _ _ _ h => h) (Or.inr ⟨by go_simp, rfl⟩) (by assumption) ?_
    go_simp
    refine wpAnyH_take (i := 27) (v := undef) rfl (by kernel_rfl) (by kernel_rfl) (by kernel_rfl) (fun _ _ _ h => h) (Or.inr ⟨by go_simp, rfl⟩) (by assumption) ?_
    go_simp
    refine wpAnyH_take (i := 28) (v := undef) rfl (by kernel_rfl) (by kernel_rfl) (by kernel_rfl) (fun _ _ _ h => h) (Or.inr ⟨by go_simp, rfl⟩) (by assumption) ?_
    go_simp
    refine wpAnyH_take (i := 29) (v := undef) rfl (by kernel_rfl) (by kernel_rfl) (by kernel_rfl) (fun _ _ _ h => h) (Or.inr ⟨by go_simp, rfl⟩) (by assumption) ?_
    go_simp
    refine wpAnyH_take (i := 30) (v := undef) rfl (by kernel_rfl) (by kernel_rfl) (by kernel_rfl) (fun _ _ _ h => h) (Or.inr ⟨by go_simp, rfl⟩) (by assumption) ?_
    go_simp
    refine wpAnyH_take (i := 31) (v := undef) rfl (by kernel_rfl) (by kernel_rfl) (by kernel_rfl) (fun _ _ _ h => h) (Or.inr ⟨by go_simp, rfl⟩) (by assumption) ?_
    go_simp
    refine wpAnyH_take (i := 32) (v := undef) rfl (by kernel_rfl) (by kernel_rfl) (by kernel_rfl) (fun _ _ _ h => h) (Or.inr ⟨by go_simp, rfl⟩) (by assumption) ?_
    go_simp
    refine wpAnyH_take (i := 33) (v := undef) rfl (by kernel_rfl) (by kernel_rfl) (by kernel_rfl) (fun _ _ _ h => h) (Or.inr ⟨by go_simp, rfl⟩) (by assumption) ?_
    go_simp
    refine wpAnyH_take (i := 34) (v := ?ve34) rfl (by kernel_rfl) (by kernel_rfl) (by kernel_rfl) (fun _ _ _ h => h) (Or.inl ⟨by rfl, ?ye34⟩) (by assumption) ?re34
    case ye34 => intro w' hSw; (try dsimp only at hSw); go_simp; try (with_reducible rfl)
    go_simp
    refine wpAnyH_done (by kernel_rfl) ?_ _
    go_wp2
    go_ret
    exact ⟨ret_bool HF.out.symm, below_on HB.out HN.out (by go_grown)⟩
  have he1 : decide (4096 < (nn : Int)) = false := by simpa using hv1
  obtain ⟨m, rfl⟩ : ∃ m, nn = m + 1 := ⟨nn - 1, by omega⟩
  obtain ⟨ad, rfl, hb, g0, g1⟩ := H.out.node (k := m) (by omega)
  clear g1
  generalize hlv : (t.nodes.getD m default).level = lv at g0
  have HV : Hid ((t.nodes.getD m default).level = lv) := hlv
  clear hlv
  have hj1 : (0 : Int) ≤ (m : Int) := by omega
  have hjn : (m : Int) < (m : Int) + 1 := by omega
  have hwj : IntKind.i64.wrap (m : Int) = (m : Int) := IntWalk.i64_in _ (by omega)
  have he0 : decide ((m : Int) + 1 < 1) = false := by rw [decide_eq_false_iff_not]; omega
  have he1 : decide (4096 < (m : Int) + 1) = false := by rw [decide_eq_false_iff_not]; omega
  have hne : (lv != (hn : Int)) = true := by
    rw [bne_iff_ne]
    intro e
    apply hbad
    refine ⟨hh, decide_eq_true ⟨⟨by omega, by omega⟩, by rw [HL.out]; omega, by rw [HL.out]; omega, ?_⟩⟩
    rw [HL.out, Nat.add_sub_cancel, HV.out, e, HLH.out]
  have HF : Hid (rightT t = false) := rightT_head (decide_eq_false (fun h => by
    have := h.2.2.2
    rw [HL.out, Nat.add_sub_cancel, HV.out, HLH.out] at this
    rw [this] at hne; simp at hne))
  clear hbad hs0 hs1 hv0 hv1
  go_enter Tryd.func15, Tryd.ntmps15
  go_wp2_with fail
  have RA : Hid (Row (World.alloc w _) w.heap.size 31 [.int .i64 t.states, .slice HA hn hc, .slice (some ad) (m + 1) nc]) := Row.new w 31 [.int .i64 t.states, .slice HA hn hc, .slice (some ad) (m + 1) nc]
  have HB : Hid (Below w.heap.size w (World.alloc w (.cells #[.int .i64 t.states, .slice HA hn hc, .slice (some ad) (m + 1) nc] 31))) := by show Below _ _ _; go_grown
  revert RA HB
  generalize World.alloc w (.cells #[.int .i64 t.states, .slice HA hn hc, .slice (some ad) (m + 1) nc] 31) = w1
  intro RA HB
  have hu : undef = Value.tuple #[] := rfl
  have HH : Hid (Rd w1 w1.heap.size 2 HA hn (hoodCells t.hood)) := H.out.hood.up HB.out
  have HN : Hid (Below w1.heap.size w1 w1) := Below.refl _ _
  have hbox : w.heap.size < w1.heap.size := RA.out.lt
  have HS : ∀ w', Below w1.heap.size w1 w' → w'.cell? ⟨w.heap.size, 0, none⟩ = some (.int .i64 t.states) ∧ w'.cell? ⟨w.heap.size, 1, none⟩ = some (.slice HA hn hc) ∧ w'.cell? ⟨w.heap.size, 2, none⟩ = some (.slice (some ad) (m + 1) nc) ∧ w'.cell? (ad.add (m * 2)) = some (.int .i64 lv) := fun w' hw => ⟨(rowCells RA.out hw).cell 0, (rowCells RA.out hw).cell 1, (rowCells RA.out hw).cell 2, ((HB.out.trans (hw.mono HB.out.size)).cell (by rw [add_block]; exact hb)).trans g0⟩
  clear RA g0
  refine wp_region_held_drew (S := fun w' => w'.cell? ⟨w.heap.size, 0, none⟩ = some (.int .i64 t.states) ∧ w'.cell? ⟨w.heap.size, 1, none⟩ = some (.slice HA hn hc) ∧ w'.cell? ⟨w.heap.size, 2, none⟩ = some (.slice (some ad) (m + 1) nc) ∧ w'.cell? (ad.add (m * 2)) = some (.int .i64 lv)) (by kernel_rfl) (by (try dsimp only); exact HS _ (by first | exact below_on2 HN.out (by go_grown) | go_grown)) (fun hHeld => ?_)
  refine wpAnyH_take (i := 0) (v := ?vf0) rfl (by kernel_rfl) (by kernel_rfl) (by kernel_rfl) (fun _ _ _ h => h) (Or.inl ⟨by rfl, ?yf0⟩) (by assumption) ?rf0
  case yf0 => intro w' hSw; (try dsimp only at hSw); go_simp; try (with_reducible rfl)
  go_simp
  refine wpAnyH_take (i := 1) (v := ?vf1) rfl (by kernel_rfl) (by kernel_rfl) (by kernel_rfl) (fun _ _ _ h => h) (Or.inl ⟨by rfl, ?yf1⟩) (by assumption) ?rf1
  case yf1 => intro w' hSw; (try dsimp only at hSw); go_simp; try (with_reducible rfl)
  go_simp
  refine wpAnyH_take (i := 2) (v := ?vf2) rfl (by kernel_rfl) (by kernel_rfl) (by kernel_rfl) (fun _ _ _ h => h) (Or.inl ⟨by rfl, ?yf2⟩) (by assumption) ?rf2
  case yf2 => intro w' hSw; (try dsimp only at hSw); go_simp; try (with_reducible rfl)
  go_simp
  refine wpAnyH_take (i := 3) (v := ?vf3) rfl (by kernel_rfl) (by kernel_rfl) (by kernel_rfl) (fun _ _ _ h => h) (Or.inl ⟨by rfl, ?yf3⟩) (by assumption) ?rf3
  case yf3 => intro w' hSw; (try dsimp only at hSw); go_simp; try (with_reducible rfl)
  go_simp
  refine wpAnyH_take (i := 4) (v := ?vf4) rfl (by kernel_rfl) (by kernel_rfl) (by kernel_rfl) (fun _ _ _ h => h) (Or.inl ⟨by first | rfl | (go_simp; done), ?yf4⟩) (by assumption) ?rf4
  case yf4 => intro w' hSw; (try dsimp only at hSw); go_simp; try (with_reducible rfl)
  go_simp
  refine wpAnyH_take (i := 5) (v := ?vf5) rfl (by kernel_rfl) (by kernel_rfl) (by kernel_rfl) (fun _ _ _ h => h) (Or.inl ⟨by first | rfl | (go_simp; done), ?yf5⟩) (by assumption) ?rf5
  case yf5 => intro w' hSw; (try dsimp only at hSw); go_simp; try (with_reducible rfl)
  go_simp
  refine wpAnyH_take (i := 6) (v := ?vf6) rfl (by kernel_rfl) (by kernel_rfl) (by kernel_rfl) (fun _ _ _ h => h) (Or.inl ⟨by first | rfl | (go_simp; done), ?yf6⟩) (by assumption) ?rf6
  case yf6 => intro w' hSw; (try dsimp only at hSw); go_simp; try (with_reducible rfl)
  go_simp
  refine wpAnyH_take (i := 7) (v := ?vf7) rfl (by kernel_rfl) (by kernel_rfl) (by kernel_rfl) (fun _ _ _ h => h) (Or.inl ⟨by rfl, ?yf7⟩) (by assumption) ?rf7
  case yf7 => intro w' hSw; (try dsimp only at hSw); go_simp; try (with_reducible rfl)
  go_simp
  refine wpAnyH_take (i := 8) (v := ?vf8) rfl (by kernel_rfl) (by kernel_rfl) (by kernel_rfl) (fun _ _ _ h => h) (Or.inl ⟨by rfl, ?yf8⟩) (by assumption) ?rf8
  case yf8 => intro w' hSw; (try dsimp only at hSw); go_simp; try (with_reducible rfl)
  go_simp
  refine wpAnyH_take (i := 9) (v := ?vf9) rfl (by kernel_rfl) (by kernel_rfl) (by kernel_rfl) (fun _ _ _ h => h) (Or.inl ⟨by first | rfl | (go_simp; done), ?yf9⟩) (by assumption) ?rf9
  case yf9 => intro w' hSw; (try dsimp only at hSw); go_simp; try (with_reducible rfl)
  go_simp
  refine wpAnyH_take (i := 10) (v := ?vf10) rfl (by kernel_rfl) (by kernel_rfl) (by kernel_rfl) (fun _ _ _ h => h) (Or.inl ⟨by first | rfl | (go_simp; done), ?yf10⟩) (by assumption) ?rf10
  case yf10 => intro w' hSw; (try dsimp only at hSw); go_simp; try (with_reducible rfl)
  go_simp
  refine wpAnyH_ready (rs := [11]) (by kernel_rfl) (by simp) ?_
  refine AllReadyH.cons rfl (fun K hK => ?_) AllReadyH.nil
  go_simp
  go_at_call 24
  refine (hoodRight_any t.hood HA hn hc _ (by exact HH.out.up (by first | exact below_on2 HN.out (by go_grown) | go_grown)) hm1).mono ?_
  rw [hh]
  rintro e w7 ⟨rfl, hb⟩
  have HN := (show Hid (Below w1.heap.size w1 w7) from below_on HN.out (by go_grown) hb)
  clear hb
  refine hK.out _ _ ?_ (fun hHeld => ?_)
  · (try dsimp only); exact HS _ (by first | exact below_on2 HN.out (by go_grown) | go_grown)
  clear hK K
  try go_simp
  refine wpAnyH_take (i := 12) (v := ?vf12) rfl (by kernel_rfl) (by kernel_rfl) (by kernel_rfl) (fun _ _ _ h => h) (Or.inl ⟨by first | rfl | (go_simp; done), ?yf12⟩) (by assumption) ?rf12
  case yf12 => intro w' hSw; (try dsimp only at hSw); go_simp; try (with_reducible rfl)
  go_simp
  refine wpAnyH_take (i := 13) (v := ?vf13) rfl (by kernel_rfl) (by kernel_rfl) (by kernel_rfl) (fun _ _ _ h => h) (Or.inl ⟨by rfl, ?yf13⟩) (by assumption) ?rf13
  case yf13 => intro w' hSw; (try dsimp only at hSw); go_simp; try (with_reducible rfl)
  go_simp
  refine wpAnyH_take (i := 14) (v := ?vf14) rfl (by kernel_rfl) (by kernel_rfl) (by kernel_rfl) (fun _ _ _ h => h) (Or.inl ⟨by rfl, ?yf14⟩) (by assumption) ?rf14
  case yf14 => intro w' hSw; (try dsimp only at hSw); go_simp; try (with_reducible rfl)
  go_simp
  refine wpAnyH_take (i := 15) (v := ?vf15) rfl (by kernel_rfl) (by kernel_rfl) (by kernel_rfl) (fun _ _ _ h => h) (Or.inl ⟨by first | rfl | (go_simp; done), ?yf15⟩) (by assumption) ?rf15
  case yf15 => intro w' hSw; (try dsimp only at hSw); go_simp; try (with_reducible rfl)
  go_simp
  refine wpAnyH_take (i := 16) (v := ?vf16) rfl (by kernel_rfl) (by kernel_rfl) (by kernel_rfl) (fun _ _ _ h => h) (Or.inl ⟨by first | rfl | (go_simp; done), ?yf16⟩) (by assumption) ?rf16
  case yf16 => intro w' hSw; (try dsimp only at hSw); go_simp; try (with_reducible rfl)
  go_simp
  refine wpAnyH_take (i := 17) (v := ?vf17) rfl (by kernel_rfl) (by kernel_rfl) (by kernel_rfl) (fun _ _ _ h => h) (Or.inl ⟨by rfl, ?yf17⟩) (by assumption) ?rf17
  case yf17 => intro w' hSw; (try dsimp only at hSw); go_simp; try (with_reducible rfl)
  go_simp
  refine wpAnyH_take (i := 18) (v := ?vf18) rfl (by kernel_rfl) (by kernel_rfl) (by kernel_rfl) (fun _ _ _ h => h) (Or.inl ⟨by rfl, ?yf18⟩) (by assumption) ?rf18
  case yf18 => intro w' hSw; (try dsimp only at hSw); go_simp; try (with_reducible rfl)
  go_simp
  refine wpAnyH_take (i := 19) (v := ?vf19) rfl (by kernel_rfl) (by kernel_rfl) (by kernel_rfl) (fun _ _ _ h => h) (Or.inl ⟨by first | rfl | (go_simp; done), ?yf19⟩) (by assumption) ?rf19
  case yf19 => intro w' hSw; (try dsimp only at hSw); go_simp; try (with_reducible rfl)
  go_simp
  refine wpAnyH_take (i := 20) (v := ?vf20) rfl (by kernel_rfl) (by kernel_rfl) (by kernel_rfl) (fun _ _ _ h => h) (Or.inl ⟨by first | rfl | (go_simp; done), ?yf20⟩) (by assumption) ?rf20
  case yf20 => intro w' hSw; (try dsimp only at hSw); go_simp; try (with_reducible rfl)
  go_simp
  refine wpAnyH_take (i := 21) (v := ?vf21) rfl (by kernel_rfl) (by kernel_rfl) (by kernel_rfl) (fun _ _ _ h => h) (Or.inl ⟨by rfl, ?yf21⟩) (by assumption) ?rf21
  case yf21 => intro w' hSw; (try dsimp only at hSw); go_simp; try (with_reducible rfl)
  go_simp
  refine wpAnyH_take (i := 22) (v := ?vf22) rfl (by kernel_rfl) (by kernel_rfl) (by kernel_rfl) (fun _ _ _ h => h) (Or.inl ⟨by rfl, ?yf22⟩) (by assumption) ?rf22
  case yf22 => intro w' hSw; (try dsimp only at hSw); go_simp; try (with_reducible rfl)
  go_simp
  refine wpAnyH_take (i := 23) (v := ?vf23) rfl (by kernel_rfl) (by kernel_rfl) (by kernel_rfl) (fun _ _ _ h => h) (Or.inl ⟨by first | rfl | (go_simp; done), ?yf23⟩) (by assumption) ?rf23
  case yf23 => intro w' hSw; (try dsimp only at hSw); go_simp; try (with_reducible rfl)
  go_simp
  refine wpAnyH_take (i := 24) (v := ?vf24) rfl (by kernel_rfl) (by kernel_rfl) (by kernel_rfl) (fun _ _ _ h => h) (Or.inl ⟨by first | rfl | (go_simp; done), ?yf24⟩) (by assumption) ?rf24
  case yf24 => intro w' hSw; (try dsimp only at hSw); go_simp; try (with_reducible rfl)
  go_simp
  refine wpAnyH_take (i := 25) (v := ?vf25) rfl (by kernel_rfl) (by kernel_rfl) (by kernel_rfl) (fun _ _ _ h => h) (Or.inl ⟨by first | rfl | (go_simp; done), ?yf25⟩) (by assumption) ?rf25
  case yf25 => intro w' hSw; (try dsimp only at hSw); go_simp; try (with_reducible rfl)
  go_simp
  refine wpAnyH_take (i := 26) (v := ?vf26) rfl (by kernel_rfl) (by kernel_rfl) (by kernel_rfl) (fun _ _ _ h => h) (Or.inl ⟨by first | rfl | (go_simp; done), ?yf26⟩) (by assumption) ?rf26
  case yf26 => intro w' hSw; (try dsimp only at hSw); go_simp; try (with_reducible rfl)
  go_simp
  refine wpAnyH_take (i := 27) (v := ?vf27) rfl (by kernel_rfl) (by kernel_rfl) (by kernel_rfl) (fun _ _ _ h => h) (Or.inl ⟨by first | rfl | (go_simp; done), ?yf27⟩) (by assumption) ?rf27
  case yf27 => intro w' hSw; (try dsimp only at hSw); go_simp; try (with_reducible rfl)
  go_simp
  refine wpAnyH_take (i := 28) (v := ?vf28) rfl (by kernel_rfl) (by kernel_rfl) (by kernel_rfl) (fun _ _ _ h => h) (Or.inl ⟨by first | rfl | (go_simp; done), ?yf28⟩) (by assumption) ?rf28
  case yf28 => intro w' hSw; (try dsimp only at hSw); go_simp; try (with_reducible rfl)
  go_simp
  refine wpAnyH_take (i := 29) (v := ?vf29) rfl (by kernel_rfl) (by kernel_rfl) (by kernel_rfl) (fun _ _ _ h => h) (Or.inl ⟨by first | rfl | (go_simp; done), ?yf29⟩) (by assumption) ?rf29
  case yf29 => intro w' hSw; (try dsimp only at hSw); go_simp; try (with_reducible rfl)
  go_simp
  refine wpAnyH_take (i := 30) (v := ?vf30) rfl (by kernel_rfl) (by kernel_rfl) (by kernel_rfl) (fun _ _ _ h => h) (Or.inl ⟨by first | rfl | (go_simp; done), ?yf30⟩) (by assumption) ?rf30
  case yf30 => intro w' hSw; (try dsimp only at hSw); go_simp; try (with_reducible rfl)
  go_simp
  refine wpAnyH_take (i := 31) (v := ?vf31) rfl (by kernel_rfl) (by kernel_rfl) (by kernel_rfl) (fun _ _ _ h => h) (Or.inl ⟨by first | rfl | (go_simp; done), ?yf31⟩) (by assumption) ?rf31
  case yf31 => intro w' hSw; (try dsimp only at hSw); go_simp; try (with_reducible rfl)
  go_simp
  refine wpAnyH_take (i := 32) (v := ?vf32) rfl (by kernel_rfl) (by kernel_rfl) (by kernel_rfl) (fun _ _ _ h => h) (Or.inl ⟨by first | rfl | (go_simp; done), ?yf32⟩) (by assumption) ?rf32
  case yf32 => intro w' hSw; (try dsimp only at hSw); go_simp; try (with_reducible rfl)
  go_simp
  refine wpAnyH_take (i := 33) (v := ?vf33) rfl (by kernel_rfl) (by kernel_rfl) (by kernel_rfl) (fun _ _ _ h => h) (Or.inl ⟨by first | rfl | (go_simp; done), ?yf33⟩) (by assumption) ?rf33
  case yf33 => intro w' hSw; (try dsimp only at hSw); go_simp; try (with_reducible rfl)
  go_simp
  refine wpAnyH_take (i := 34) (v := ?vf34) rfl (by kernel_rfl) (by kernel_rfl) (by kernel_rfl) (fun _ _ _ h => h) (Or.inl ⟨by rfl, ?yf34⟩) (by assumption) ?rf34
  case yf34 => intro w' hSw; (try dsimp only at hSw); go_simp; try (with_reducible rfl)
  go_simp
  refine wpAnyH_done (by kernel_rfl) ?_ _
  go_wp2
  go_ret
  exact ⟨ret_bool HF.out.symm, below_on HB.out HN.out (by go_grown)⟩
end Go.Proofs.YtlmdjkmcplobnaaDoor

