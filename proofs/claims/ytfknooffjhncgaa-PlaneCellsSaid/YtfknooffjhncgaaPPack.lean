/-
  plane.Pack, walked: a grid that is not right, or a number of planes out of reach.
-/
import Derived.Test.YtfknooffjhncgaaPBlank
import Derived.Test.YtfknooffjhncgaaPPackP
import Derived.Test.YtfknooffjhncgaaGRight
namespace Go.Proofs.Ytfknooffjhncgaa
open Go.RowKit
set_option linter.unusedSimpArgs false
set_option linter.unusedVariables false
/-- What a call returns that returns planes and an error: new planes. -/
def PPost (r : Pln) (k : Int) (w : World) (e : Ending) (w' : World) : Prop :=
  ∃ (A : Option Addr) (n c M : Nat) (gs : List Nat), e = .returned (.tuple #[.agg #[.int .i64 r.w, .int .i64 r.h, .int .i64 r.edge, .slice A n c], .int .i64 k]) ∧ POwn w' w.heap.size (.slice A n c) M gs r.words ∧ (r.words.length = n ∧ n ≤ 3 ∧ M ≤ 1024) ∧ Below w.heap.size w w'
theorem ppost_err {r : Pln} {k k' : Int} {w w' : World} (hr : r = noPln) (hk : k' = k) (hb : Below w.heap.size w w') : PPost r k' w (.returned (.tuple #[.agg #[.int .i64 0, .int .i64 0, .int .i64 0, .slice none 0 0], .int .i64 k])) w' := by
  subst hr hk
  exact ⟨none, 0, 0, 0, [], rfl, POwn.nil _ _ _, ⟨rfl, by omega, by omega⟩, hb⟩
/-- The planes lie in memory. -/
theorem ppost_at {r : Pln} {k : Int} {w w' : World} {e : Ending} (h : PPost r k w e w') :
    ∃ (A : Option Addr) (n c : Nat) (sl : List Sl), e = .returned (.tuple #[.agg #[.int .i64 r.w, .int .i64 r.h, .int .i64 r.edge, .slice A n c], .int .i64 k]) ∧ PAt w' r A n sl ∧ Below w.heap.size w w' := by
  obtain ⟨A, n, c, M, gs, e1, ho, ⟨h1, h2, h3⟩, hb⟩ := h
  exact ⟨A, n, c, _, e1, ho.pAt h1 (by unfold maxLen; omega) (by unfold maxLen; omega), hb⟩
theorem packBad {g : Grd} {b : Int} (h : ¬ (rightG g = true ∧ 1 ≤ b ∧ b ≤ 3)) : packR g b = noPln ∧ packErr g b = 2 := by
  have h2 : packErr g b = 2 := by unfold packErr; rw [if_neg h]
  exact ⟨by unfold packR; rw [h2]; rfl, h2⟩

set_option maxRecDepth 100000 in
set_option maxHeartbeats 2000000 in
theorem plPack_bad (g : Grd) (A : Option Addr) (n c : Nat) (b : Int) (w : World) (h : GAt w g A n) (hbad : ¬ (rightG g = true ∧ 1 ≤ b ∧ b ≤ 3)) :
    Calls Try.prog 10 #[.agg #[.int .i64 g.w, .int .i64 g.h, .int .i64 g.edge, .slice A n c], .int .i64 b] w (PPost (packR g b) (packErr g b) w) := by
  have H : Hid (GAt w g A n) := h
  have HCE : Hid (packR g b = noPln ∧ packErr g b = 2) := packBad hbad
  go_enter Try.func10, Try.ntmps10
  go_wp2_with fail
  refine (gRight_any g A n c _ (H.out.up (by go_grown))).mono ?_
  rintro e w1 ⟨rfl, hb⟩
  have HB : Hid (Below w.heap.size w w1) := below_next hb (by go_grown)
  have RZ : Hid (Row w1 (w.heap.size + 1) 28 [.int .i64 0, .int .i64 0, .int .i64 0, .slice none 0 0]) := rowCells (rowNew1 w _ 28 [.int .i64 0, .int .i64 0, .int .i64 0, .slice none 0 0]) hb
  clear hb h
  have HBAD : Hid (¬ (rightG g = true ∧ 1 ≤ b ∧ b ≤ 3)) := hbad
  have d0 := RZ.out.cell 0
  have d1 := RZ.out.cell 1
  have d2 := RZ.out.cell 2
  have d3 := RZ.out.cell 3
  have dl := RZ.out.lt
  simp only [List.getElem?_cons_zero, List.getElem?_cons_succ] at d0 d1 d2 d3
  have f0 := RZ.out.frozen 0
  have f1 := RZ.out.frozen 1
  have f2 := RZ.out.frozen 2
  have f3 := RZ.out.frozen 3
  have BB := HB.out
  cases hr : rightG g
  · clear hbad hr
    go_wp2
    exact bodyPost_ret (v := .tuple #[.agg #[.int .i64 0, .int .i64 0, .int .i64 0, .slice none 0 0], .int .i64 2]) (by simp [results, Try.results10, go_sem, d0, d1, d2, d3]) rfl (ppost_err HCE.out.1 HCE.out.2 (by go_grown))
  · have hbb : b < 1 ∨ 3 < b := by
      rcases Int.lt_or_le b 1 with h1 | h1
      · exact .inl h1
      · rcases Int.lt_or_le 3 b with h3 | h3
        · exact .inr h3
        · exact absurd ⟨hr, h1, h3⟩ hbad
    clear hbad hr
    rcases hbb with h1 | h1
    · go_wp2
      exact bodyPost_ret (v := .tuple #[.agg #[.int .i64 0, .int .i64 0, .int .i64 0, .slice none 0 0], .int .i64 2]) (by simp [results, Try.results10, go_sem, d0, d1, d2, d3]) rfl (ppost_err HCE.out.1 HCE.out.2 (by go_grown))
    · have h2 : ¬ b < 1 := by omega
      go_wp2
      exact bodyPost_ret (v := .tuple #[.agg #[.int .i64 0, .int .i64 0, .int .i64 0, .slice none 0 0], .int .i64 2]) (by simp [results, Try.results10, go_sem, d0, d1, d2, d3]) rfl (ppost_err HCE.out.1 HCE.out.2 (by go_grown))
end Go.Proofs.Ytfknooffjhncgaa
