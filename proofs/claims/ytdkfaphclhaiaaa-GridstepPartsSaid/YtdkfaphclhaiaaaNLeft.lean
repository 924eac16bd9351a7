/-
  left of the laws of gridstep: the rule that a cell takes its left neighbour's state, walked.
-/
import Derived.Test.YtdkfaphclhaiaaaTReadB
import Derived.Test.YtdkfaphclhaiaaaNAwP
namespace Go.Proofs.Ytdkfaphclhaiaaa
open Go.RowKit
set_option linter.unusedSimpArgs false
set_option linter.unusedVariables false
set_option maxRecDepth 100000 in
set_option maxHeartbeats 2000000 in
theorem leftN_any (w : World) : Calls Try.prog 23 #[] w fun e w' => ∃ HA NA hc nc sl, e = .returned (.agg #[.int .i64 2, .slice HA 2 hc, .slice NA 3 nc]) ∧ TAt w' awT HA NA 2 3 sl ∧ Below w.heap.size w w' := by
  go_enter Try.func23, Try.ntmps23
  go_wp2_with fail
  have RZ : Hid (Row (World.alloc (World.alloc w (.cells #[.int .i64 0, .slice none 0 0, .slice none 0 0] 25)) (.cells #[.int .i64 (-1), .int .i64 0, .int .i64 0, .int .i64 0] 65)) (w.heap.size) 25 [.int .i64 0, .slice none 0 0, .slice none 0 0]) := by
    have h0 := Row.new w 25 [.int .i64 0, .slice none 0 0, .slice none 0 0]
    try simp only [World.size_alloc] at h0
    exact (h0.alloc _)
  have RP : Hid (Row (World.alloc (World.alloc w (.cells #[.int .i64 0, .slice none 0 0, .slice none 0 0] 25)) (.cells #[.int .i64 (-1), .int .i64 0, .int .i64 0, .int .i64 0] 65)) (w.heap.size + 1) 65 [.int .i64 (-1), .int .i64 0, .int .i64 0, .int .i64 0]) := by
    have h0 := Row.new (World.alloc w (.cells #[.int .i64 0, .slice none 0 0, .slice none 0 0] 25)) 65 [.int .i64 (-1), .int .i64 0, .int .i64 0, .int .i64 0]
    try simp only [World.size_alloc] at h0
    exact h0
  have hgr9 : Below w.heap.size w (World.alloc (World.alloc w (.cells #[.int .i64 0, .slice none 0 0, .slice none 0 0] 25)) (.cells #[.int .i64 (-1), .int .i64 0, .int .i64 0, .int .i64 0] 65)) := by go_grown
  have B_w : Hid (Below w.heap.size w (World.alloc (World.alloc w (.cells #[.int .i64 0, .slice none 0 0, .slice none 0 0] 25)) (.cells #[.int .i64 (-1), .int .i64 0, .int .i64 0, .int .i64 0] 65))) := hgr9
  clear hgr9
  revert RZ RP B_w
  generalize (World.alloc (World.alloc w (.cells #[.int .i64 0, .slice none 0 0, .slice none 0 0] 25)) (.cells #[.int .i64 (-1), .int .i64 0, .int .i64 0, .int .i64 0] 65)) = wa
  intro RZ RP B_w
  have HC := rRead_any 2 0 awL (some ⟨w.heap.size + 1, 0, none⟩) 2 2 wa (RP.out.rd rfl) (by unfold maxLen; omega)
  rw [aw_read.1, aw_read.2] at HC
  refine HC.mono ?_
  clear HC
  rintro e w1 ⟨⟨_, _, _, _, _, _, _, _, _, hb⟩, h2⟩
  obtain ⟨NA, nc, sl, he, htl⟩ := h2 rfl
  have he2 : e = .returned (.tuple #[.agg #[.int .i64 2, .slice (some ⟨w.heap.size + 1, 0, none⟩) 2 2, .slice NA 3 nc], .int .i64 0]) := he
  subst he2
  have HTL : Hid (TSl w1 awT.nodes NA nc sl) := htl
  clear he h2 htl
  have B_w : Hid (Below w.heap.size w w1) := below_on2 B_w.out hb
  have B_wa : Hid (Below wa.heap.size wa w1) := hb
  clear hb
  have zR : Hid (Row w1 (w.heap.size) 25 [.int .i64 0, .slice none 0 0, .slice none 0 0]) := (rowCells RZ.out B_wa.out)
  have z0 := zR.out.cell 0
  have z1 := zR.out.cell 1
  have z2 := zR.out.cell 2
  have zl := zR.out.lt
  simp only [List.getElem?_cons_zero, List.getElem?_cons_succ] at z0 z1 z2
  clear zR
  have zf0 := (show Row _ _ _ _ from (rowCells RZ.out B_wa.out)).frozen 0
  have zf1 := (show Row _ _ _ _ from (rowCells RZ.out B_wa.out)).frozen 1
  have zf2 := (show Row _ _ _ _ from (rowCells RZ.out B_wa.out)).frozen 2
  go_wp2
  have hz : w.heap.size < w1.heap.size := by have := (show Row w1 _ _ _ from (rowCells RP.out B_wa.out)).lt; omega
  obtain ⟨g1, g2⟩ := TFr.store3 (rowCells RZ.out B_wa.out) (.int .i64 2) (.slice (some ⟨w.heap.size + 1, 0, none⟩) 2 2) (.slice NA 3 nc)
  have TL2 : TSl (World.setCell (World.setCell (World.setCell w1 ⟨w.heap.size, 0, none⟩ (.int .i64 2)) ⟨w.heap.size, 1, none⟩ (.slice (some ⟨w.heap.size + 1, 0, none⟩) 2 2)) ⟨w.heap.size, 2, none⟩ (.slice NA 3 nc)) awT.nodes NA nc sl := TSl.frm HTL.out g1
  have hz2 : w.heap.size ≤ ((World.setCell (World.setCell (World.setCell w1 ⟨w.heap.size, 0, none⟩ (.int .i64 2)) ⟨w.heap.size, 1, none⟩ (.slice (some ⟨w.heap.size + 1, 0, none⟩) 2 2)) ⟨w.heap.size, 2, none⟩ (.slice NA 3 nc))).heap.size := by simp only [World.size_setCell]; omega
  have TL5 : TSl (World.alloc (World.setCell (World.setCell (World.setCell w1 ⟨w.heap.size, 0, none⟩ (.int .i64 2)) ⟨w.heap.size, 1, none⟩ (.slice (some ⟨w.heap.size + 1, 0, none⟩) 2 2)) ⟨w.heap.size, 2, none⟩ (.slice NA 3 nc)) (.cells #[.int .i64 2, .slice (some ⟨w.heap.size + 1, 0, none⟩) 2 2, .slice NA 3 nc] 25)) awT.nodes NA nc sl := TSl.frm TL2 ((TFr.refl _ w.heap.size _).alloc hz2 _)
  have RP5 : Row (World.alloc (World.setCell (World.setCell (World.setCell w1 ⟨w.heap.size, 0, none⟩ (.int .i64 2)) ⟨w.heap.size, 1, none⟩ (.slice (some ⟨w.heap.size + 1, 0, none⟩) 2 2)) ⟨w.heap.size, 2, none⟩ (.slice NA 3 nc)) (.cells #[.int .i64 2, .slice (some ⟨w.heap.size + 1, 0, none⟩) 2 2, .slice NA 3 nc] 25)) (w.heap.size + 1) 65 [.int .i64 (-1), .int .i64 0, .int .i64 0, .int .i64 0] := (((((rowCells RP.out B_wa.out).far (p := ⟨w.heap.size, 0, none⟩) (by show w.heap.size + 1 ≠ w.heap.size; omega) _).far (p := ⟨w.heap.size, 1, none⟩) (by show w.heap.size + 1 ≠ w.heap.size; omega) _).far (p := ⟨w.heap.size, 2, none⟩) (by show w.heap.size + 1 ≠ w.heap.size; omega) _).alloc _)
  have B5 : Below w.heap.size w (World.alloc (World.setCell (World.setCell (World.setCell w1 ⟨w.heap.size, 0, none⟩ (.int .i64 2)) ⟨w.heap.size, 1, none⟩ (.slice (some ⟨w.heap.size + 1, 0, none⟩) 2 2)) ⟨w.heap.size, 2, none⟩ (.slice NA 3 nc)) (.cells #[.int .i64 2, .slice (some ⟨w.heap.size + 1, 0, none⟩) 2 2, .slice NA 3 nc] 25)) := (B_w.out.trans g1.below).alloc hz2 _
  have d0 := (g2.alloc (.cells #[.int .i64 2, .slice (some ⟨w.heap.size + 1, 0, none⟩) 2 2, .slice NA 3 nc] 25)).cell 0
  have d1 := (g2.alloc (.cells #[.int .i64 2, .slice (some ⟨w.heap.size + 1, 0, none⟩) 2 2, .slice NA 3 nc] 25)).cell 1
  have d2 := (g2.alloc (.cells #[.int .i64 2, .slice (some ⟨w.heap.size + 1, 0, none⟩) 2 2, .slice NA 3 nc] 25)).cell 2
  simp only [List.getElem?_cons_zero, List.getElem?_cons_succ] at d0 d1 d2
  clear g1 g2 TL2
  refine bodyPost_ret (v := .agg #[.int .i64 2, .slice (some ⟨w.heap.size + 1, 0, none⟩) 2 2, .slice NA 3 nc]) (by simp [results, Try.results23, go_sem, d0, d1, d2]) rfl ?_
  exact ⟨_, NA, 2, nc, sl, rfl, TL5.at_ (st := 2) (hood := awL) (hn := 2) (RP5.rd rfl) (by unfold maxLen; omega) (by decide) (by decide), B5⟩
end Go.Proofs.Ytdkfaphclhaiaaa
