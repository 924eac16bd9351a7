/-
  The law GridGets: what it does.
-/
import Derived.Test.YtoldjjgogdbalaaGAlive
import Derived.Test.YtoldjjgogdbalaaGRefFrom
import Derived.Test.YtoldjjgogdbalaaPat5d
import Derived.Test.YtoldjjgogdbalaaGRefRight
namespace Go.Proofs.Ytoldjjgogdbalaa
open Go.RowKit
set_option linter.unusedSimpArgs false
set_option linter.unusedVariables false

set_option maxRecDepth 100000 in
set_option maxHeartbeats 4000000 in
theorem lawGets_any (g : Grd) (A : Option Addr) (n c : Nat) (x y : Int) (w : World) (h : GAt w g A n) :
    Calls Try.prog 4 #[.agg #[.int .i64 g.w, .int .i64 g.h, .int .i64 g.edge, .slice A n c], .int .i64 x, .int .i64 y] w fun e w' => e = .returned (.bool true) ∧ Below w.heap.size w w' := by
  have H : Hid (GAt w g A n) := h
  clear h
  go_enter Try.func4, Try.ntmps4
  go_wp2_with fail
  refine (gfew_any g A n c _ (H.out.up (by go_grown))).mono ?_
  rintro e w2 ⟨rfl, hb⟩
  have HB : Hid (Below w.heap.size w w2) := below_next hb (by go_grown)
  have RC : Hid (Row w2 w.heap.size 24 [.int .i64 g.w, .int .i64 g.h, .int .i64 g.edge, .slice A n c]) := rowCells (Row.new w 24 [.int .i64 g.w, .int .i64 g.h, .int .i64 g.edge, .slice A n c]) hb
  clear hb
  cases hf : fewG g
  · clear RC
    go_wp2_with fail
    refine (galive_any _).mono ?_
    rintro e w9 ⟨rfl, hb⟩
    have HBE : Hid (Below w.heap.size w w9) := below_on HB.out (by go_grown) hb
    clear hb
    go_wp2
    go_ret
    exact ⟨rfl, HBE.out⟩
  clear hf
  have HT : Hid (g.edge = 1 → getF g (x + g.w) y = getF g x y ∧ getF g x (y - g.h) = getF g x y) := get_torus g x y
  have HF : Hid (g.edge = 2 → getF g (x + 2 * g.w) y = getF g x y ∧ getF g (-1 - x) y = getF g x y ∧ getF g x (y - 2 * g.h) = getF g x y ∧ getF g x (-1 - y) = getF g x y) := get_fold g x y
  have HD : Hid (g.edge = 0 → ¬ ((0 ≤ x ∧ x < g.w) ∧ (0 ≤ y ∧ y < g.h)) → getF g x y = 0) := get_dead g x y
  have c0 := RC.out.cell 0
  have c1 := RC.out.cell 1
  have c2 := RC.out.cell 2
  have c3 := RC.out.cell 3
  simp only [List.getElem?_cons_zero, List.getElem?_cons_succ] at c0 c1 c2 c3
  go_wp2_with fail
  refine (gGet_any g A n c x y _ (H.out.up HB.out)).mono ?_
  generalize hs : getF g x y = s at HT HF HD ⊢
  have HS : Hid (getF g x y = s) := hs
  clear hs
  rintro e w3 ⟨rfl, hb⟩
  have HB := (show Hid (Below w.heap.size w w3) from below_on2 HB.out hb)
  have RC := (show Hid (Row w3 _ _ _) from rowCells RC.out hb)
  clear hb c0 c1 c2 c3
  have c0 := RC.out.cell 0
  have c1 := RC.out.cell 1
  have c2 := RC.out.cell 2
  have c3 := RC.out.cell 3
  simp only [List.getElem?_cons_zero, List.getElem?_cons_succ] at c0 c1 c2 c3
  go_wp2_with fail
  refine (rGGet_any g A n c x y _ (H.out.up HB.out)).mono ?_
  rw [HS.out]
  rintro e w4 ⟨rfl, hb⟩
  have HB := (show Hid (Below w.heap.size w w4) from below_on2 HB.out hb)
  have RC := (show Hid (Row w4 _ _ _) from rowCells RC.out hb)
  clear hb c0 c1 c2 c3
  have c0 := RC.out.cell 0
  have c1 := RC.out.cell 1
  have c2 := RC.out.cell 2
  have c3 := RC.out.cell 3
  simp only [List.getElem?_cons_zero, List.getElem?_cons_succ] at c0 c1 c2 c3
  have hss : (s != s) = false := by simp
  go_wp2_with fail
  refine (rGRight_any g A n c _ (H.out.up HB.out)).mono ?_
  rintro e w5 ⟨rfl, hb⟩
  have HB := (show Hid (Below w.heap.size w w5) from below_on2 HB.out hb)
  have RC := (show Hid (Row w5 _ _ _) from rowCells RC.out hb)
  clear hb c0 c1 c2 c3
  cases hr : rightG g
  · clear RC
    go_wp2_with fail
    refine (galive_any _).mono ?_
    rintro e w9 ⟨rfl, hb⟩
    have HBE : Hid (Below w.heap.size w w9) := below_on HB.out (by go_grown) hb
    clear hb
    go_wp2
    go_ret
    exact ⟨rfl, HBE.out⟩
  obtain ⟨hsz, hl, ha⟩ := rightG_parts hr
  obtain ⟨⟨q1, q2⟩, ⟨h1, h2⟩, hm', he1, he2⟩ := sizedF_parts hsz
  clear hr hsz hl ha hm'
  by_cases hx : ((-1099511627776 ≤ x ∧ x ≤ 1099511627776) ∧ (-1099511627776 ≤ y ∧ y ≤ 1099511627776))
  · obtain ⟨⟨x1, x2⟩, ⟨y1, y2⟩⟩ := hx
    have c0 := RC.out.cell 0
    have c1 := RC.out.cell 1
    have c2 := RC.out.cell 2
    have c3 := RC.out.cell 3
    simp only [List.getElem?_cons_zero, List.getElem?_cons_succ] at c0 c1 c2 c3
    by_cases e1 : g.edge = 1
    · have T1 : Hid (getF g (x + g.w) y = s) := (HT.out e1).1
      have T2 : Hid (getF g x (y - g.h) = s) := (HT.out e1).2
      have hE : (g.edge == 1) = true := by simpa using e1
      clear HT HF HD e1
      go_wp2_with fail
      refine (gGet_any g A n c (x + g.w) (y) _ (H.out.up HB.out)).mono ?_
      rw [T1.out]
      rintro e w6 ⟨rfl, hb⟩
      have HB := (show Hid (Below w.heap.size w w6) from below_on2 HB.out hb)
      have RC := (show Hid (Row w6 _ _ _) from rowCells RC.out hb)
      clear hb c0 c1 c2 c3
      have c0 := RC.out.cell 0
      have c1 := RC.out.cell 1
      have c2 := RC.out.cell 2
      have c3 := RC.out.cell 3
      simp only [List.getElem?_cons_zero, List.getElem?_cons_succ] at c0 c1 c2 c3
      go_wp2_with fail
      refine (gGet_any g A n c (x) (y - g.h) _ (H.out.up HB.out)).mono ?_
      rw [T2.out]
      rintro e w6 ⟨rfl, hb⟩
      have HB := (show Hid (Below w.heap.size w w6) from below_on2 HB.out hb)
      have RC := (show Hid (Row w6 _ _ _) from rowCells RC.out hb)
      clear hb c0 c1 c2 c3
      have c0 := RC.out.cell 0
      have c1 := RC.out.cell 1
      have c2 := RC.out.cell 2
      have c3 := RC.out.cell 3
      simp only [List.getElem?_cons_zero, List.getElem?_cons_succ] at c0 c1 c2 c3
      clear c0 c1 c2 c3 RC
      go_wp2_with fail
      refine (galive_any _).mono ?_
      rintro e w9 ⟨rfl, hb⟩
      have HBE : Hid (Below w.heap.size w w9) := below_on HB.out (by go_grown) hb
      clear hb
      go_wp2
      go_ret
      exact ⟨rfl, HBE.out⟩
    · by_cases e2 : g.edge = 2
      · have T1 : Hid (getF g (x + 2 * g.w) y = s) := (HF.out e2).1
        have T2 : Hid (getF g (-1 - x) y = s) := (HF.out e2).2.1
        have T3 : Hid (getF g x (y - 2 * g.h) = s) := (HF.out e2).2.2.1
        have T4 : Hid (getF g x (-1 - y) = s) := (HF.out e2).2.2.2
        have hE : (g.edge == 1) = false := by simpa using e1
        have hE2 : (g.edge == 2) = true := by simpa using e2
        clear HT HF HD e1 e2
        go_wp2_with fail
        refine (gGet_any g A n c (x + 2 * g.w) (y) _ (H.out.up HB.out)).mono ?_
        rw [T1.out]
        rintro e w6 ⟨rfl, hb⟩
        have HB := (show Hid (Below w.heap.size w w6) from below_on2 HB.out hb)
        have RC := (show Hid (Row w6 _ _ _) from rowCells RC.out hb)
        clear hb c0 c1 c2 c3
        have c0 := RC.out.cell 0
        have c1 := RC.out.cell 1
        have c2 := RC.out.cell 2
        have c3 := RC.out.cell 3
        simp only [List.getElem?_cons_zero, List.getElem?_cons_succ] at c0 c1 c2 c3
        go_wp2_with fail
        refine (gGet_any g A n c (-1 - x) (y) _ (H.out.up HB.out)).mono ?_
        rw [T2.out]
        rintro e w6 ⟨rfl, hb⟩
        have HB := (show Hid (Below w.heap.size w w6) from below_on2 HB.out hb)
        have RC := (show Hid (Row w6 _ _ _) from rowCells RC.out hb)
        clear hb c0 c1 c2 c3
        have c0 := RC.out.cell 0
        have c1 := RC.out.cell 1
        have c2 := RC.out.cell 2
        have c3 := RC.out.cell 3
        simp only [List.getElem?_cons_zero, List.getElem?_cons_succ] at c0 c1 c2 c3
        go_wp2_with fail
        refine (gGet_any g A n c (x) (y - 2 * g.h) _ (H.out.up HB.out)).mono ?_
        rw [T3.out]
        rintro e w6 ⟨rfl, hb⟩
        have HB := (show Hid (Below w.heap.size w w6) from below_on2 HB.out hb)
        have RC := (show Hid (Row w6 _ _ _) from rowCells RC.out hb)
        clear hb c0 c1 c2 c3
        have c0 := RC.out.cell 0
        have c1 := RC.out.cell 1
        have c2 := RC.out.cell 2
        have c3 := RC.out.cell 3
        simp only [List.getElem?_cons_zero, List.getElem?_cons_succ] at c0 c1 c2 c3
        go_wp2_with fail
        refine (gGet_any g A n c (x) (-1 - y) _ (H.out.up HB.out)).mono ?_
        rw [T4.out]
        rintro e w6 ⟨rfl, hb⟩
        have HB := (show Hid (Below w.heap.size w w6) from below_on2 HB.out hb)
        have RC := (show Hid (Row w6 _ _ _) from rowCells RC.out hb)
        clear hb c0 c1 c2 c3
        have c0 := RC.out.cell 0
        have c1 := RC.out.cell 1
        have c2 := RC.out.cell 2
        have c3 := RC.out.cell 3
        simp only [List.getElem?_cons_zero, List.getElem?_cons_succ] at c0 c1 c2 c3
        clear c0 c1 c2 c3 RC
        go_wp2_with fail
        refine (galive_any _).mono ?_
        rintro e w9 ⟨rfl, hb⟩
        have HBE : Hid (Below w.heap.size w w9) := below_on HB.out (by go_grown) hb
        clear hb
        go_wp2
        go_ret
        exact ⟨rfl, HBE.out⟩
      · have hE : (g.edge == 1) = false := by simpa using e1
        have hE2 : (g.edge == 2) = false := by simpa using e2
        have he0 : g.edge = 0 := by omega
        by_cases hs0 : s = 0
        · subst hs0
          clear HT HF HD e1 e2 he0
          go_wp2_with fail
          refine (galive_any _).mono ?_
          rintro e w9 ⟨rfl, hb⟩
          have HBE : Hid (Below w.heap.size w w9) := below_on HB.out (by go_grown) hb
          clear hb
          go_wp2
          go_ret
          exact ⟨rfl, HBE.out⟩
        · obtain ⟨⟨i1, i2⟩, ⟨i3, i4⟩⟩ : (0 ≤ x ∧ x < g.w) ∧ (0 ≤ y ∧ y < g.h) := by
            apply Classical.byContradiction
            intro hc
            exact hs0 (HD.out he0 hc)
          have hs1 : (s == 0) = false := by simpa using hs0
          clear HT HF HD e1 e2 he0 hs0
          go_wp2_with fail
          refine (galive_any _).mono ?_
          rintro e w9 ⟨rfl, hb⟩
          have HBE : Hid (Below w.heap.size w w9) := below_on HB.out (by go_grown) hb
          clear hb
          go_wp2
          go_ret
          exact ⟨rfl, HBE.out⟩
  · clear RC HT HF HD
    go_wp2_with (go_at_call 11
                 refine (galive_any _).mono ?_
                 rintro e w9 ⟨rfl, hb⟩
                 have HBE : Hid (Below w.heap.size w w9) := below_on HB.out (by go_grown) hb
                 clear hb)
    all_goals first | (go_ret; exact ⟨rfl, HBE.out⟩) | (exfalso; omega)
end Go.Proofs.Ytoldjjgogdbalaa
