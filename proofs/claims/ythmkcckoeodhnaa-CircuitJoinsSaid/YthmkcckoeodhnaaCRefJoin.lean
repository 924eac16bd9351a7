/-
  The reference's Join: its refusals.
-/
import Derived.Test.YthmkcckoeodhnaaCRefEval
import Derived.Test.YthmkcckoeodhnaaCJPost
import Derived.Deep.RegionLaw
import Derived.BigRegion
namespace Go.Proofs.Ythmkcckoeodhnaa
open Go.RowKit
set_option linter.unusedSimpArgs false
set_option linter.unusedVariables false

theorem gate_info' : (Try.prog.info? 46).map (fun i => (i.zero, i.size, i.bytes)) = some (some (.agg #[.int .i64 0, .int .i64 0, .int .i64 0]), 3, 24) := by kernel_rfl
theorem int_info3 : (Try.prog.info? 3).map (fun i => (i.zero, i.size, i.bytes)) = some (some (.int .i64 0), 1, 8) := by kernel_rfl

set_option maxRecDepth 100000 in
set_option maxHeartbeats 1000000 in
theorem rJoin_err2 (a b : Circ) (GA OA GB OB : Option Addr) (gn gc on oc hn hc pn pc : Nat) (w : World) (hA : CAt w a GA OA gn on) (hB : CAt w b GB OB hn pn) (he : joinErr a b = 2) :
    Calls Try.prog 21 #[.agg #[.int .i64 a.inputs, .slice GA gn gc, .slice OA on oc], .agg #[.int .i64 b.inputs, .slice GB hn hc, .slice OB pn pc]] w (JoinPost a b w) := by
  have HA : Hid (CAt w a GA OA gn on) := hA
  have HB : Hid (CAt w b GB OB hn pn) := hB
  have HE : Hid (joinErr a b = 2) := he
  have LO : Hid (a.outs.length = on) := hA.ol
  have hm := hA.o63
  unfold maxLen at hm
  clear hA hB he
  cases hr : rightC a
  · go_enter Try.func21, Try.ntmps21
    go_wp2_with fail
    refine (rRight_at a GA OA gn gc on oc _ (HA.out.up (by go_grown))).mono ?_
    rw [hr]
    rintro e w1 ⟨rfl, hb⟩
    have B1 : Below w.heap.size w w1 := (show Below w.heap.size w (((w.alloc (.cells #[.int .i64 a.inputs, .slice GA gn gc, .slice OA on oc] 25)).alloc (.cells #[.int .i64 b.inputs, .slice GB hn hc, .slice OB pn pc] 25)).alloc (.cells #[.int .i64 0, .slice none 0 0, .slice none 0 0] 25)) by go_grown).trans (hb.mono (by simp; omega))
    have RA : Hid (Row w1 w.heap.size 25 [.int .i64 a.inputs, .slice GA gn gc, .slice OA on oc]) := (((Row.new w _ _).alloc _).alloc _).below hb (by simp; omega)
    have RB : Hid (Row w1 (w.heap.size + 1) 25 [.int .i64 b.inputs, .slice GB hn hc, .slice OB pn pc]) := ((row_new1 w _ _ _).alloc _).below hb (by simp)
    have RC : Hid (Row w1 (w.heap.size + 1 + 1) 25 [.int .i64 0, .slice none 0 0, .slice none 0 0]) := (row_new2 w _ _ _ _).below hb (by simp)
    clear hb
    have a0 := RA.out.cell 0
    have a1 := RA.out.cell 1
    have a2 := RA.out.cell 2
    have b0 := RB.out.cell 0
    have b1 := RB.out.cell 1
    have b2 := RB.out.cell 2
    have d0 := RC.out.cell 0
    have d1 := RC.out.cell 1
    have d2 := RC.out.cell 2
    have f0 := RC.out.frozen 0
    have f1 := RC.out.frozen 1
    have f2 := RC.out.frozen 2
    simp only [List.getElem?_cons_zero, List.getElem?_cons_succ] at a0 a1 a2 b0 b1 b2 d0 d1 d2
    go_wp2
    exact bodyPost_ret (v := .tuple #[.agg #[.int .i64 0, .slice none 0 0, .slice none 0 0], .int .i64 2]) (by simp [results, Try.results21, go_sem, d0, d1, d2]) rfl (joinPost_err HE.out (by decide) (by go_grown))
  · cases hs : rightC b
    · go_enter Try.func21, Try.ntmps21
      go_wp2_with fail
      refine (rRight_at a GA OA gn gc on oc _ (HA.out.up (by go_grown))).mono ?_
      rw [hr]
      rintro e w1 ⟨rfl, hb⟩
      have B1 : Below w.heap.size w w1 := (show Below w.heap.size w (((w.alloc (.cells #[.int .i64 a.inputs, .slice GA gn gc, .slice OA on oc] 25)).alloc (.cells #[.int .i64 b.inputs, .slice GB hn hc, .slice OB pn pc] 25)).alloc (.cells #[.int .i64 0, .slice none 0 0, .slice none 0 0] 25)) by go_grown).trans (hb.mono (by simp; omega))
      have RA : Hid (Row w1 w.heap.size 25 [.int .i64 a.inputs, .slice GA gn gc, .slice OA on oc]) := (((Row.new w _ _).alloc _).alloc _).below hb (by simp; omega)
      have RB : Hid (Row w1 (w.heap.size + 1) 25 [.int .i64 b.inputs, .slice GB hn hc, .slice OB pn pc]) := ((row_new1 w _ _ _).alloc _).below hb (by simp)
      have RC : Hid (Row w1 (w.heap.size + 1 + 1) 25 [.int .i64 0, .slice none 0 0, .slice none 0 0]) := (row_new2 w _ _ _ _).below hb (by simp)
      have BB : Hid (Below (w.heap.size + 3) (((w.alloc (.cells #[.int .i64 a.inputs, .slice GA gn gc, .slice OA on oc] 25)).alloc (.cells #[.int .i64 b.inputs, .slice GB hn hc, .slice OB pn pc] 25)).alloc (.cells #[.int .i64 0, .slice none 0 0, .slice none 0 0] 25)) w1) := hb.mono (by simp)
      clear hb
      have a0 := RA.out.cell 0
      have a1 := RA.out.cell 1
      have a2 := RA.out.cell 2
      have b0 := RB.out.cell 0
      have b1 := RB.out.cell 1
      have b2 := RB.out.cell 2
      have d0 := RC.out.cell 0
      have d1 := RC.out.cell 1
      have d2 := RC.out.cell 2
      have f0 := RC.out.frozen 0
      have f1 := RC.out.frozen 1
      have f2 := RC.out.frozen 2
      simp only [List.getElem?_cons_zero, List.getElem?_cons_succ] at a0 a1 a2 b0 b1 b2 d0 d1 d2
      go_wp2_with fail
      refine (rRight_at b GB OB hn hc pn pc _ (HB.out.up B1)).mono ?_
      rw [hs]
      rintro e w2 ⟨rfl, hb⟩
      have hz : w.heap.size + 3 ≤ w1.heap.size := by have := BB.out.size; simp at this; omega
      clear a0 a1 a2 b0 b1 b2 d0 d1 d2 f0 f1 f2
      have RA := (show Hid (Row w2 _ _ _) from RA.out.below hb RA.out.lt)
      have RB := (show Hid (Row w2 _ _ _) from RB.out.below hb RB.out.lt)
      have RC := (show Hid (Row w2 _ _ _) from RC.out.below hb RC.out.lt)
      have B1 := B1.trans (hb.mono B1.size)
      clear hb
      have a0 := RA.out.cell 0
      have a1 := RA.out.cell 1
      have a2 := RA.out.cell 2
      have b0 := RB.out.cell 0
      have b1 := RB.out.cell 1
      have b2 := RB.out.cell 2
      have d0 := RC.out.cell 0
      have d1 := RC.out.cell 1
      have d2 := RC.out.cell 2
      have f0 := RC.out.frozen 0
      have f1 := RC.out.frozen 1
      have f2 := RC.out.frozen 2
      simp only [List.getElem?_cons_zero, List.getElem?_cons_succ] at a0 a1 a2 b0 b1 b2 d0 d1 d2
      go_wp2
      exact bodyPost_ret (v := .tuple #[.agg #[.int .i64 0, .slice none 0 0, .slice none 0 0], .int .i64 2]) (by simp [results, Try.results21, go_sem, d0, d1, d2]) rfl (joinPost_err HE.out (by decide) (by go_grown))
    · have hne : ((on : Int) != b.inputs) = true := by
        rw [bne_iff_ne]
        intro h
        have := HE.out
        rw [joinErr, if_pos ⟨hr, hs, by rw [LO.out]; exact h⟩] at this
        split at this <;> cases this
      go_enter Try.func21, Try.ntmps21
      go_wp2_with fail
      refine (rRight_at a GA OA gn gc on oc _ (HA.out.up (by go_grown))).mono ?_
      rw [hr]
      rintro e w1 ⟨rfl, hb⟩
      have B1 : Below w.heap.size w w1 := (show Below w.heap.size w (((w.alloc (.cells #[.int .i64 a.inputs, .slice GA gn gc, .slice OA on oc] 25)).alloc (.cells #[.int .i64 b.inputs, .slice GB hn hc, .slice OB pn pc] 25)).alloc (.cells #[.int .i64 0, .slice none 0 0, .slice none 0 0] 25)) by go_grown).trans (hb.mono (by simp; omega))
      have RA : Hid (Row w1 w.heap.size 25 [.int .i64 a.inputs, .slice GA gn gc, .slice OA on oc]) := (((Row.new w _ _).alloc _).alloc _).below hb (by simp; omega)
      have RB : Hid (Row w1 (w.heap.size + 1) 25 [.int .i64 b.inputs, .slice GB hn hc, .slice OB pn pc]) := ((row_new1 w _ _ _).alloc _).below hb (by simp)
      have RC : Hid (Row w1 (w.heap.size + 1 + 1) 25 [.int .i64 0, .slice none 0 0, .slice none 0 0]) := (row_new2 w _ _ _ _).below hb (by simp)
      clear hb
      have a0 := RA.out.cell 0
      have a1 := RA.out.cell 1
      have a2 := RA.out.cell 2
      have b0 := RB.out.cell 0
      have b1 := RB.out.cell 1
      have b2 := RB.out.cell 2
      have d0 := RC.out.cell 0
      have d1 := RC.out.cell 1
      have d2 := RC.out.cell 2
      have f0 := RC.out.frozen 0
      have f1 := RC.out.frozen 1
      have f2 := RC.out.frozen 2
      simp only [List.getElem?_cons_zero, List.getElem?_cons_succ] at a0 a1 a2 b0 b1 b2 d0 d1 d2
      go_wp2_with fail
      refine (rRight_at b GB OB hn hc pn pc _ (HB.out.up B1)).mono ?_
      rw [hs]
      rintro e w2 ⟨rfl, hb⟩
      clear a0 a1 a2 b0 b1 b2 d0 d1 d2 f0 f1 f2
      have RA := (show Hid (Row w2 _ _ _) from RA.out.below hb RA.out.lt)
      have RB := (show Hid (Row w2 _ _ _) from RB.out.below hb RB.out.lt)
      have RC := (show Hid (Row w2 _ _ _) from RC.out.below hb RC.out.lt)
      have B1 := B1.trans (hb.mono B1.size)
      clear hb
      have a0 := RA.out.cell 0
      have a1 := RA.out.cell 1
      have a2 := RA.out.cell 2
      have b0 := RB.out.cell 0
      have b1 := RB.out.cell 1
      have b2 := RB.out.cell 2
      have d0 := RC.out.cell 0
      have d1 := RC.out.cell 1
      have d2 := RC.out.cell 2
      have f0 := RC.out.frozen 0
      have f1 := RC.out.frozen 1
      have f2 := RC.out.frozen 2
      simp only [List.getElem?_cons_zero, List.getElem?_cons_succ] at a0 a1 a2 b0 b1 b2 d0 d1 d2
      go_wp2
      exact bodyPost_ret (v := .tuple #[.agg #[.int .i64 0, .slice none 0 0, .slice none 0 0], .int .i64 2]) (by simp [results, Try.results21, go_sem, d0, d1, d2]) rfl (joinPost_err HE.out (by decide) (by go_grown))
set_option maxRecDepth 100000 in
set_option maxHeartbeats 1000000 in
theorem rJoin_err6 (a b : Circ) (GA OA GB OB : Option Addr) (gn gc on oc hn hc pn pc : Nat) (w : World) (hA : CAt w a GA OA gn on) (hB : CAt w b GB OB hn pn) (he : joinErr a b = 6) :
    Calls Try.prog 21 #[.agg #[.int .i64 a.inputs, .slice GA gn gc, .slice OA on oc], .agg #[.int .i64 b.inputs, .slice GB hn hc, .slice OB pn pc]] w (JoinPost a b w) := by
  have HA : Hid (CAt w a GA OA gn on) := hA
  have HB : Hid (CAt w b GB OB hn pn) := hB
  have HE : Hid (joinErr a b = 6) := he
  obtain ⟨hra, hrb, hio⟩ := joinErr_parts (a := a) (b := b) (by rw [he]; decide)
  have HRA : Hid (rightC a = true) := hra
  have HRB : Hid (rightC b = true) := hrb
  have hne : ((on : Int) != b.inputs) = false := by rw [← hA.ol, bne_eq_false_iff_eq]; exact hio
  have hsum : 20000 < (gn : Int) + (hn : Int) := by
    rw [joinErr, if_pos ⟨hra, hrb, hio⟩] at he
    split at he
    · cases he
    · rename_i h; rw [hA.gl, hB.gl] at h; omega
  have hm := (rightC_parts hra).1.2.2.1
  have hm' := (rightC_parts hrb).1.2.2.1
  rw [hA.gl] at hm
  rw [hB.gl] at hm'
  clear hA hB he hra hrb hio
  go_enter Try.func21, Try.ntmps21
  go_wp2_with fail
  refine (rRight_at a GA OA gn gc on oc _ (HA.out.up (by go_grown))).mono ?_
  rw [HRA.out]
  rintro e w1 ⟨rfl, hb⟩
  have B1 : Below w.heap.size w w1 := (show Below w.heap.size w (((w.alloc (.cells #[.int .i64 a.inputs, .slice GA gn gc, .slice OA on oc] 25)).alloc (.cells #[.int .i64 b.inputs, .slice GB hn hc, .slice OB pn pc] 25)).alloc (.cells #[.int .i64 0, .slice none 0 0, .slice none 0 0] 25)) by go_grown).trans (hb.mono (by simp; omega))
  have RA : Hid (Row w1 w.heap.size 25 [.int .i64 a.inputs, .slice GA gn gc, .slice OA on oc]) := (((Row.new w _ _).alloc _).alloc _).below hb (by simp; omega)
  have RB : Hid (Row w1 (w.heap.size + 1) 25 [.int .i64 b.inputs, .slice GB hn hc, .slice OB pn pc]) := ((row_new1 w _ _ _).alloc _).below hb (by simp)
  have RC : Hid (Row w1 (w.heap.size + 1 + 1) 25 [.int .i64 0, .slice none 0 0, .slice none 0 0]) := (row_new2 w _ _ _ _).below hb (by simp)
  clear hb
  have a0 := RA.out.cell 0
  have a1 := RA.out.cell 1
  have a2 := RA.out.cell 2
  have b0 := RB.out.cell 0
  have b1 := RB.out.cell 1
  have b2 := RB.out.cell 2
  have d0 := RC.out.cell 0
  have d1 := RC.out.cell 1
  have d2 := RC.out.cell 2
  have f0 := RC.out.frozen 0
  have f1 := RC.out.frozen 1
  have f2 := RC.out.frozen 2
  simp only [List.getElem?_cons_zero, List.getElem?_cons_succ] at a0 a1 a2 b0 b1 b2 d0 d1 d2
  go_wp2_with fail
  refine (rRight_at b GB OB hn hc pn pc _ (HB.out.up B1)).mono ?_
  rw [HRB.out]
  rintro e w2 ⟨rfl, hb⟩
  clear a0 a1 a2 b0 b1 b2 d0 d1 d2 f0 f1 f2
  have RA := (show Hid (Row w2 _ _ _) from RA.out.below hb RA.out.lt)
  have RB := (show Hid (Row w2 _ _ _) from RB.out.below hb RB.out.lt)
  have RC := (show Hid (Row w2 _ _ _) from RC.out.below hb RC.out.lt)
  have B1 := B1.trans (hb.mono B1.size)
  have hz : w.heap.size + 1 + 1 < w2.heap.size := RC.out.lt
  clear hb
  have a0 := RA.out.cell 0
  have a1 := RA.out.cell 1
  have a2 := RA.out.cell 2
  have b0 := RB.out.cell 0
  have b1 := RB.out.cell 1
  have b2 := RB.out.cell 2
  have d0 := RC.out.cell 0
  have d1 := RC.out.cell 1
  have d2 := RC.out.cell 2
  have f0 := RC.out.frozen 0
  have f1 := RC.out.frozen 1
  have f2 := RC.out.frozen 2
  simp only [List.getElem?_cons_zero, List.getElem?_cons_succ] at a0 a1 a2 b0 b1 b2 d0 d1 d2
  go_wp2
  exact bodyPost_ret (v := .tuple #[.agg #[.int .i64 0, .slice none 0 0, .slice none 0 0], .int .i64 6]) (by simp [results, Try.results21, go_sem, d0, d1, d2]) rfl (joinPost_err HE.out (by decide) (by go_grown))

end Go.Proofs.Ythmkcckoeodhnaa
