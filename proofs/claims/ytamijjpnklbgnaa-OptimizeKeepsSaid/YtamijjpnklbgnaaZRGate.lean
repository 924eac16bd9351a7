/-
  The reference of package optimize: fold and foldXor, walked.
-/
import Derived.Test.YtamijjpnklbgnaaZRIs
import Derived.Test.YtamijjpnklbgnaaZLaw
import Derived.BigQuiet
namespace Go.Proofs.Ytamijjpnklbgnaa
open Go.RowKit
set_option linter.unusedSimpArgs false
set_option linter.unusedVariables false
set_option maxRecDepth 100000 in
set_option maxHeartbeats 8000000 in
theorem rNot_any (n : Int) (gs : List Gt) (GA OA : Option Addr) (gn gc on oc : Nat) (x : Int) (w : World) (hG : Rd w w.heap.size 3 GA gn (gatesCells gs)) (hn : 0 ≤ n ∧ n ≤ 1000) (hg : gn ≤ 20000) (hx : 0 ≤ x ∧ x < n + (gn : Int)) :
    Calls Try.prog 41 #[.agg #[.int .i64 n, .slice GA gn gc, .slice OA on oc], .agg #[.int .i64 2, .int .i64 x, .int .i64 0]] w (fun e w' => e = .returned (.tuple #[.agg #[.int .i64 (notF n gs x).1.op, .int .i64 (notF n gs x).1.a, .int .i64 (notF n gs x).1.b], .int .i64 (notF n gs x).2]) ∧ Below w.heap.size w w') := by
  have HG : Hid (Rd w w.heap.size 3 GA gn (gatesCells gs)) := hG
  have HBx : Hid (0 ≤ x ∧ x < n + (gn : Int)) := hx
  clear hG hx
  obtain ⟨P0, hP0⟩ : ∃ q, isW n gs (x) 0 = q := ⟨_, rfl⟩
  have HP0 : Hid (∀ _ : Unit, isW n gs (x) 0 = P0) := fun _ => hP0
  clear hP0
  obtain ⟨P1, hP1⟩ : ∃ q, isW n gs (x) 1 = q := ⟨_, rfl⟩
  have HP1 : Hid (∀ _ : Unit, isW n gs (x) 1 = P1) := fun _ => hP1
  clear hP1
  obtain ⟨P2, hP2⟩ : ∃ q, isW n gs (x) 2 = q := ⟨_, rfl⟩
  have HP2 : Hid (∀ _ : Unit, isW n gs (x) 2 = P2) := fun _ => hP2
  clear hP2
  go_enter Try.func41, Try.ntmps41
  go_upto_region 1 with fail
  have RC : Hid (Row (World.alloc (World.alloc (World.alloc w (.cells #[.int .i64 n, .slice GA gn gc, .slice OA on oc] 25)) (.cells #[.int .i64 2, .int .i64 x, .int .i64 0] 32)) (.cells #[.int .i64 0, .int .i64 0, .int .i64 0] 32)) (w.heap.size) 25 [.int .i64 n, .slice GA gn gc, .slice OA on oc]) := by
    have h0 := Row.new w 25 [.int .i64 n, .slice GA gn gc, .slice OA on oc]
    try simp only [World.size_alloc] at h0
    exact ((h0.alloc _).alloc _)
  have RG : Hid (Row (World.alloc (World.alloc (World.alloc w (.cells #[.int .i64 n, .slice GA gn gc, .slice OA on oc] 25)) (.cells #[.int .i64 2, .int .i64 x, .int .i64 0] 32)) (.cells #[.int .i64 0, .int .i64 0, .int .i64 0] 32)) (w.heap.size + 1) 32 [.int .i64 2, .int .i64 x, .int .i64 0]) := by
    have h0 := Row.new (World.alloc w (.cells #[.int .i64 n, .slice GA gn gc, .slice OA on oc] 25)) 32 [.int .i64 2, .int .i64 x, .int .i64 0]
    try simp only [World.size_alloc] at h0
    exact (h0.alloc _)
  have RR : Hid (Row (World.alloc (World.alloc (World.alloc w (.cells #[.int .i64 n, .slice GA gn gc, .slice OA on oc] 25)) (.cells #[.int .i64 2, .int .i64 x, .int .i64 0] 32)) (.cells #[.int .i64 0, .int .i64 0, .int .i64 0] 32)) (w.heap.size + 1 + 1) 32 [.int .i64 0, .int .i64 0, .int .i64 0]) := by
    have h0 := Row.new (World.alloc (World.alloc w (.cells #[.int .i64 n, .slice GA gn gc, .slice OA on oc] 25)) (.cells #[.int .i64 2, .int .i64 x, .int .i64 0] 32)) 32 [.int .i64 0, .int .i64 0, .int .i64 0]
    try simp only [World.size_alloc] at h0
    exact h0
  have hgr9 : Below w.heap.size w (World.alloc (World.alloc (World.alloc w (.cells #[.int .i64 n, .slice GA gn gc, .slice OA on oc] 25)) (.cells #[.int .i64 2, .int .i64 x, .int .i64 0] 32)) (.cells #[.int .i64 0, .int .i64 0, .int .i64 0] 32)) := by go_grown
  have B_w : Hid (Below w.heap.size w (World.alloc (World.alloc (World.alloc w (.cells #[.int .i64 n, .slice GA gn gc, .slice OA on oc] 25)) (.cells #[.int .i64 2, .int .i64 x, .int .i64 0] 32)) (.cells #[.int .i64 0, .int .i64 0, .int .i64 0] 32))) := hgr9
  clear hgr9
  revert RC RG RR B_w
  generalize (World.alloc (World.alloc (World.alloc w (.cells #[.int .i64 n, .slice GA gn gc, .slice OA on oc] 25)) (.cells #[.int .i64 2, .int .i64 x, .int .i64 0] 32)) (.cells #[.int .i64 0, .int .i64 0, .int .i64 0] 32)) = wa
  intro RC RG RR B_w
  have hwa : w.heap.size + 1 + 1 < wa.heap.size := RR.out.lt
  have gR : Hid (Row wa (w.heap.size + 1) 32 [.int .i64 2, .int .i64 x, .int .i64 0]) := RG.out
  have g0 := gR.out.cell 0
  have g1 := gR.out.cell 1
  have g2 := gR.out.cell 2
  have gl := gR.out.lt
  simp only [List.getElem?_cons_zero, List.getElem?_cons_succ] at g0 g1 g2
  clear gR
  go_quiet (fail)
  have B_w : Hid (Below w.heap.size w (wa.drewN nq)) := below_drewN B_w.out nq
  have B_wa : Hid (Below wa.heap.size wa (wa.drewN nq)) := below_drewN (Below.refl _ _) nq
  clear g0 g1 g2 gl
  revert B_w B_wa
  generalize (wa.drewN nq) = wb
  intro B_w B_wa
  go_upto_region 3 with fail
  have RZ : Hid (Row (World.alloc (World.alloc wb (.cells #[.int .i64 0, .int .i64 0, .int .i64 0] 32)) (.cells #[.int .i64 1, .int .i64 0, .int .i64 0] 32)) (wb.heap.size) 32 [.int .i64 0, .int .i64 0, .int .i64 0]) := by
    have h0 := Row.new wb 32 [.int .i64 0, .int .i64 0, .int .i64 0]
    try simp only [World.size_alloc] at h0
    exact (h0.alloc _)
  have RO : Hid (Row (World.alloc (World.alloc wb (.cells #[.int .i64 0, .int .i64 0, .int .i64 0] 32)) (.cells #[.int .i64 1, .int .i64 0, .int .i64 0] 32)) (wb.heap.size + 1) 32 [.int .i64 1, .int .i64 0, .int .i64 0]) := by
    have h0 := Row.new (World.alloc wb (.cells #[.int .i64 0, .int .i64 0, .int .i64 0] 32)) 32 [.int .i64 1, .int .i64 0, .int .i64 0]
    try simp only [World.size_alloc] at h0
    exact h0
  have hgr9 : Below wb.heap.size wb (World.alloc (World.alloc wb (.cells #[.int .i64 0, .int .i64 0, .int .i64 0] 32)) (.cells #[.int .i64 1, .int .i64 0, .int .i64 0] 32)) := by go_grown
  have B_w : Hid (Below w.heap.size w (World.alloc (World.alloc wb (.cells #[.int .i64 0, .int .i64 0, .int .i64 0] 32)) (.cells #[.int .i64 1, .int .i64 0, .int .i64 0] 32))) := below_on2 B_w.out hgr9
  have B_wa : Hid (Below wa.heap.size wa (World.alloc (World.alloc wb (.cells #[.int .i64 0, .int .i64 0, .int .i64 0] 32)) (.cells #[.int .i64 1, .int .i64 0, .int .i64 0] 32))) := below_on2 B_wa.out hgr9
  have B_wb : Hid (Below wb.heap.size wb (World.alloc (World.alloc wb (.cells #[.int .i64 0, .int .i64 0, .int .i64 0] 32)) (.cells #[.int .i64 1, .int .i64 0, .int .i64 0] 32))) := hgr9
  clear hgr9
  revert RZ RO B_w B_wa B_wb
  generalize (World.alloc (World.alloc wb (.cells #[.int .i64 0, .int .i64 0, .int .i64 0] 32)) (.cells #[.int .i64 1, .int .i64 0, .int .i64 0] 32)) = wc
  intro RZ RO B_w B_wa B_wb
  have cR : Hid (Row wc (w.heap.size) 25 [.int .i64 n, .slice GA gn gc, .slice OA on oc]) := (rowCells RC.out B_wa.out)
  have c0 := cR.out.cell 0
  have c1 := cR.out.cell 1
  have c2 := cR.out.cell 2
  have cl := cR.out.lt
  simp only [List.getElem?_cons_zero, List.getElem?_cons_succ] at c0 c1 c2
  clear cR
  have gR : Hid (Row wc (w.heap.size + 1) 32 [.int .i64 2, .int .i64 x, .int .i64 0]) := (rowCells RG.out B_wa.out)
  have g0 := gR.out.cell 0
  have g1 := gR.out.cell 1
  have g2 := gR.out.cell 2
  have gl := gR.out.lt
  simp only [List.getElem?_cons_zero, List.getElem?_cons_succ] at g0 g1 g2
  clear gR
  have zR : Hid (Row wc (wb.heap.size) 32 [.int .i64 0, .int .i64 0, .int .i64 0]) := RZ.out
  have z0 := zR.out.cell 0
  have z1 := zR.out.cell 1
  have z2 := zR.out.cell 2
  have zl := zR.out.lt
  simp only [List.getElem?_cons_zero, List.getElem?_cons_succ] at z0 z1 z2
  clear zR
  have oR : Hid (Row wc (wb.heap.size + 1) 32 [.int .i64 1, .int .i64 0, .int .i64 0]) := RO.out
  have o0 := oR.out.cell 0
  have o1 := oR.out.cell 1
  have o2 := oR.out.cell 2
  have ol := oR.out.lt
  simp only [List.getElem?_cons_zero, List.getElem?_cons_succ] at o0 o1 o2
  clear oR
  go_wp2_with fail
  have HC := rIs_any n gs GA OA gn gc on oc (x) 0 wc ((HG.out.up B_w.out)) hn hg HBx.out.2 (by have := HBx.out.1; omega)
  rw [HP0.out ()] at HC
  refine HC.mono ?_
  clear HC
  rintro e x1 ⟨rfl, hb⟩
  have B_w : Hid (Below w.heap.size w x1) := below_on2 B_w.out hb
  have B_wa : Hid (Below wa.heap.size wa x1) := below_on2 B_wa.out hb
  have B_wb : Hid (Below wb.heap.size wb x1) := below_on2 B_wb.out hb
  have B_wc : Hid (Below wc.heap.size wc x1) := hb
  clear c0 c1 c2 cl g0 g1 g2 gl z0 z1 z2 zl o0 o1 o2 ol
  clear hb
  cases P0
  · skip
    have cR : Hid (Row x1 (w.heap.size) 25 [.int .i64 n, .slice GA gn gc, .slice OA on oc]) := (rowCells RC.out B_wa.out)
    have c0 := cR.out.cell 0
    have c1 := cR.out.cell 1
    have c2 := cR.out.cell 2
    have cl := cR.out.lt
    simp only [List.getElem?_cons_zero, List.getElem?_cons_succ] at c0 c1 c2
    clear cR
    have gR : Hid (Row x1 (w.heap.size + 1) 32 [.int .i64 2, .int .i64 x, .int .i64 0]) := (rowCells RG.out B_wa.out)
    have g0 := gR.out.cell 0
    have g1 := gR.out.cell 1
    have g2 := gR.out.cell 2
    have gl := gR.out.lt
    simp only [List.getElem?_cons_zero, List.getElem?_cons_succ] at g0 g1 g2
    clear gR
    have zR : Hid (Row x1 (wb.heap.size) 32 [.int .i64 0, .int .i64 0, .int .i64 0]) := (rowCells RZ.out B_wc.out)
    have z0 := zR.out.cell 0
    have z1 := zR.out.cell 1
    have z2 := zR.out.cell 2
    have zl := zR.out.lt
    simp only [List.getElem?_cons_zero, List.getElem?_cons_succ] at z0 z1 z2
    clear zR
    have oR : Hid (Row x1 (wb.heap.size + 1) 32 [.int .i64 1, .int .i64 0, .int .i64 0]) := (rowCells RO.out B_wc.out)
    have o0 := oR.out.cell 0
    have o1 := oR.out.cell 1
    have o2 := oR.out.cell 2
    have ol := oR.out.lt
    simp only [List.getElem?_cons_zero, List.getElem?_cons_succ] at o0 o1 o2
    clear oR
    go_wp2_with fail
    have HC := rIs_any n gs GA OA gn gc on oc (x) 1 x1 ((HG.out.up B_w.out)) hn hg HBx.out.2 (by have := HBx.out.1; omega)
    rw [HP1.out ()] at HC
    refine HC.mono ?_
    clear HC
    rintro e x2 ⟨rfl, hb⟩
    have B_w : Hid (Below w.heap.size w x2) := below_on2 B_w.out hb
    have B_wa : Hid (Below wa.heap.size wa x2) := below_on2 B_wa.out hb
    have B_wb : Hid (Below wb.heap.size wb x2) := below_on2 B_wb.out hb
    have B_wc : Hid (Below wc.heap.size wc x2) := below_on2 B_wc.out hb
    have B_x1 : Hid (Below x1.heap.size x1 x2) := hb
    clear c0 c1 c2 cl g0 g1 g2 gl z0 z1 z2 zl o0 o1 o2 ol
    clear hb
    cases P1
    · skip
      have cR : Hid (Row x2 (w.heap.size) 25 [.int .i64 n, .slice GA gn gc, .slice OA on oc]) := (rowCells RC.out B_wa.out)
      have c0 := cR.out.cell 0
      have c1 := cR.out.cell 1
      have c2 := cR.out.cell 2
      have cl := cR.out.lt
      simp only [List.getElem?_cons_zero, List.getElem?_cons_succ] at c0 c1 c2
      clear cR
      have gR : Hid (Row x2 (w.heap.size + 1) 32 [.int .i64 2, .int .i64 x, .int .i64 0]) := (rowCells RG.out B_wa.out)
      have g0 := gR.out.cell 0
      have g1 := gR.out.cell 1
      have g2 := gR.out.cell 2
      have gl := gR.out.lt
      simp only [List.getElem?_cons_zero, List.getElem?_cons_succ] at g0 g1 g2
      clear gR
      have zR : Hid (Row x2 (wb.heap.size) 32 [.int .i64 0, .int .i64 0, .int .i64 0]) := (rowCells RZ.out B_wc.out)
      have z0 := zR.out.cell 0
      have z1 := zR.out.cell 1
      have z2 := zR.out.cell 2
      have zl := zR.out.lt
      simp only [List.getElem?_cons_zero, List.getElem?_cons_succ] at z0 z1 z2
      clear zR
      have oR : Hid (Row x2 (wb.heap.size + 1) 32 [.int .i64 1, .int .i64 0, .int .i64 0]) := (rowCells RO.out B_wc.out)
      have o0 := oR.out.cell 0
      have o1 := oR.out.cell 1
      have o2 := oR.out.cell 2
      have ol := oR.out.lt
      simp only [List.getElem?_cons_zero, List.getElem?_cons_succ] at o0 o1 o2
      clear oR
      go_wp2_with fail
      have HC := rIs_any n gs GA OA gn gc on oc (x) 2 x2 ((HG.out.up B_w.out)) hn hg HBx.out.2 (by have := HBx.out.1; omega)
      rw [HP2.out ()] at HC
      refine HC.mono ?_
      clear HC
      rintro e x3 ⟨rfl, hb⟩
      have B_w : Hid (Below w.heap.size w x3) := below_on2 B_w.out hb
      have B_wa : Hid (Below wa.heap.size wa x3) := below_on2 B_wa.out hb
      have B_wb : Hid (Below wb.heap.size wb x3) := below_on2 B_wb.out hb
      have B_wc : Hid (Below wc.heap.size wc x3) := below_on2 B_wc.out hb
      have B_x1 : Hid (Below x1.heap.size x1 x3) := below_on2 B_x1.out hb
      have B_x2 : Hid (Below x2.heap.size x2 x3) := hb
      clear c0 c1 c2 cl g0 g1 g2 gl z0 z1 z2 zl o0 o1 o2 ol
      clear hb
      cases P2
      · skip
        have cR : Hid (Row x3 (w.heap.size) 25 [.int .i64 n, .slice GA gn gc, .slice OA on oc]) := (rowCells RC.out B_wa.out)
        have c0 := cR.out.cell 0
        have c1 := cR.out.cell 1
        have c2 := cR.out.cell 2
        have cl := cR.out.lt
        simp only [List.getElem?_cons_zero, List.getElem?_cons_succ] at c0 c1 c2
        clear cR
        have gR : Hid (Row x3 (w.heap.size + 1) 32 [.int .i64 2, .int .i64 x, .int .i64 0]) := (rowCells RG.out B_wa.out)
        have g0 := gR.out.cell 0
        have g1 := gR.out.cell 1
        have g2 := gR.out.cell 2
        have gl := gR.out.lt
        simp only [List.getElem?_cons_zero, List.getElem?_cons_succ] at g0 g1 g2
        clear gR
        have zR : Hid (Row x3 (wb.heap.size) 32 [.int .i64 0, .int .i64 0, .int .i64 0]) := (rowCells RZ.out B_wc.out)
        have z0 := zR.out.cell 0
        have z1 := zR.out.cell 1
        have z2 := zR.out.cell 2
        have zl := zR.out.lt
        simp only [List.getElem?_cons_zero, List.getElem?_cons_succ] at z0 z1 z2
        clear zR
        have oR : Hid (Row x3 (wb.heap.size + 1) 32 [.int .i64 1, .int .i64 0, .int .i64 0]) := (rowCells RO.out B_wc.out)
        have o0 := oR.out.cell 0
        have o1 := oR.out.cell 1
        have o2 := oR.out.cell 2
        have ol := oR.out.lt
        simp only [List.getElem?_cons_zero, List.getElem?_cons_succ] at o0 o1 o2
        clear oR
        have rR : Hid (Row x3 (w.heap.size + 1 + 1) 32 [.int .i64 0, .int .i64 0, .int .i64 0]) := (rowCells RR.out B_wa.out)
        have r0 := rR.out.cell 0
        have r1 := rR.out.cell 1
        have r2 := rR.out.cell 2
        have rl := rR.out.lt
        simp only [List.getElem?_cons_zero, List.getElem?_cons_succ] at r0 r1 r2
        clear rR
        have RRf : Hid (Row x3 (w.heap.size + 1 + 1) 32 [.int .i64 0, .int .i64 0, .int .i64 0]) := (rowCells RR.out B_wa.out)
        have rf0 := RRf.out.frozen 0
        have rf1 := RRf.out.frozen 1
        have rf2 := RRf.out.frozen 2
        go_wp2
        have Z9 : Row (World.setCell (World.setCell (World.setCell x3 ⟨(w.heap.size + 1 + 1), 0, none⟩ (.int .i64 2)) ⟨(w.heap.size + 1 + 1), 1, none⟩ (.int .i64 x)) ⟨(w.heap.size + 1 + 1), 2, none⟩ (.int .i64 0)) (w.heap.size + 1 + 1) 32 [.int .i64 2, .int .i64 x, .int .i64 0] := (Row.set (Row.set (Row.set RRf.out 0 (.int .i64 2)) 1 (.int .i64 x)) 2 (.int .i64 0))
        have B9 : Below w.heap.size w (World.setCell (World.setCell (World.setCell x3 ⟨(w.heap.size + 1 + 1), 0, none⟩ (.int .i64 2)) ⟨(w.heap.size + 1 + 1), 1, none⟩ (.int .i64 x)) ⟨(w.heap.size + 1 + 1), 2, none⟩ (.int .i64 0)) := (Below.setCell (Below.setCell (Below.setCell B_w.out (p := ⟨(w.heap.size + 1 + 1), 0, none⟩) (by show _ ≤ (w.heap.size + 1 + 1); omega) (.int .i64 2)) (p := ⟨(w.heap.size + 1 + 1), 1, none⟩) (by show _ ≤ (w.heap.size + 1 + 1); omega) (.int .i64 x)) (p := ⟨(w.heap.size + 1 + 1), 2, none⟩) (by show _ ≤ (w.heap.size + 1 + 1); omega) (.int .i64 0))
        have d0 := Z9.cell 0
        have d1 := Z9.cell 1
        have d2 := Z9.cell 2
        simp only [List.getElem?_cons_zero, List.getElem?_cons_succ] at d0 d1 d2
        clear Z9
        refine bodyPost_ret (v := .tuple #[.agg #[.int .i64 2, .int .i64 x, .int .i64 0], .int .i64 (-1)]) (by simp [results, Try.results41, go_sem, d0, d1, d2]) rfl ?_
        have HV := (show notF n gs x = (⟨2, x, 0⟩, -1) from by unfold notF; simp [HP0.out (), HP1.out (), HP2.out ()])
        exact ⟨by rw [HV], B9⟩
      · skip
        obtain ⟨j, ad, rfl, hj, rfl, hab, hcx⟩ := isW_data HG.out (HP2.out ()) HBx.out.2
        have HCX : Hid (∀ W9, Below w.heap.size w W9 → W9.cell? ⟨(ad.add (j * 3)).block, (ad.add (j * 3)).off + 1, none⟩ = some (.int .i64 (argW n gs (n + (j : Int))))) := hcx
        obtain ⟨zz, hzz⟩ : ∃ z, argW n gs (n + (j : Int)) = z := ⟨_, rfl⟩
        have HZZ : Hid (∀ _ : Unit, argW n gs (n + (j : Int)) = zz) := fun _ => hzz
        rw [hzz] at HCX
        have hi1 : (j : Int) < (gn : Int) := by omega
        have hw1 : IntKind.i64.wrap (n + (j : Int) - n) = (j : Int) := by
          rw [show n + (j : Int) - n = (j : Int) by omega]
          exact IntWalk.i64_in _ (by omega)
        have R1 : Hid (Row x3 w.heap.size 25 [.int .i64 n, .slice (some ad) gn gc, .slice OA on oc]) := (rowCells RC.out B_wa.out)
        have R2 : Hid (Row x3 (w.heap.size + 1) 32 [.int .i64 2, .int .i64 (n + (j : Int)), .int .i64 0]) := (rowCells RG.out B_wa.out)
        have R3 : Hid (Row x3 (w.heap.size + 1 + 1) 32 [.int .i64 0, .int .i64 0, .int .i64 0]) := (rowCells RR.out B_wa.out)
        have BW : Hid (Below w.heap.size w x3) := B_w
        clear hcx hzz
        go_upto_region 10 with fail
        refine wp_region_L (fun w' => Row w' w.heap.size 25 [.int .i64 n, .slice (some ad) gn gc, .slice OA on oc] ∧ Row w' (w.heap.size + 1) 32 [.int .i64 2, .int .i64 (n + (j : Int)), .int .i64 0] ∧ w'.cell? ⟨(ad.add (j * 3)).block, (ad.add (j * 3)).off + 1, none⟩ = some (.int .i64 zz)) [] (by kernel_rfl) (by exact ⟨R1.out.drew, R2.out.drew, HCX.out _ BW.out.drew⟩) (fun hHeld => ?_)
        have R1d : Hid (Row (World.drew x3) w.heap.size 25 [.int .i64 n, .slice (some ad) gn gc, .slice OA on oc]) := R1.out.drew
        have R2d : Hid (Row (World.drew x3) (w.heap.size + 1) 32 [.int .i64 2, .int .i64 (n + (j : Int)), .int .i64 0]) := R2.out.drew
        have R3d : Hid (Row (World.drew x3) (w.heap.size + 1 + 1) 32 [.int .i64 0, .int .i64 0, .int .i64 0]) := R3.out.drew
        have BWd : Hid (Below w.heap.size w (World.drew x3)) := BW.out.drew
        clear R1 R2 R3 BW B_w B_wa B_wb B_wc B_x1 B_x2
        revert hHeld R1d R2d R3d BWd
        generalize World.drew x3 = wQ
        intro hHeld R1 R2 R3 BW
        refine restL_pure (i := 1) (v := ?va1) rfl (by kernel_rfl) (by kernel_rfl) (by kernel_rfl) (fun _ _ _ h => h) (Or.inl ⟨by rfl, ?ya1⟩) ?ra1
        case ya1 => intro w' hSw; clear hSw; go_simp; try (with_reducible rfl)
        go_simp
        refine restL_pure (i := 3) (v := ?va2) rfl (by kernel_rfl) (by kernel_rfl) (by kernel_rfl) (fun _ _ _ h => h) (Or.inl ⟨by rfl, ?ya2⟩) ?ra2
        case ya2 => intro w' hSw; clear hSw; go_simp; try (with_reducible rfl)
        go_simp
        refine restL_pure (i := 4) (v := ?va3) rfl (by kernel_rfl) (by kernel_rfl) (by kernel_rfl) (fun _ _ _ h => h) (Or.inl ⟨by rfl, ?ya3⟩) ?ra3
        case ya3 => intro w' hSw; clear hSw; go_simp; try (with_reducible rfl)
        go_simp
        refine restL_take (i := 0) (v := ?va4) [] rfl (by kernel_rfl) (by kernel_rfl) (by kernel_rfl) (by kernel_rfl) (fun _ _ _ h => h) (Or.inl ⟨by rfl, ?ya4⟩) hHeld ?ra4
        case ya4 =>
          intro w' hSw
          have hS1 : Hid (Row w' w.heap.size 25 [.int .i64 n, .slice (some ad) gn gc, .slice OA on oc]) := hSw.1
          have hS2 : Hid (Row w' (w.heap.size + 1) 32 [.int .i64 2, .int .i64 (n + (j : Int)), .int .i64 0]) := hSw.2.1
          have hS3 := hSw.2.2
          clear hSw
          have u0 := hS1.out.cell 0
          have u1 := hS1.out.cell 1
          have u2 := hS1.out.cell 2
          have ul := hS1.out.lt
          simp only [List.getElem?_cons_zero, List.getElem?_cons_succ] at u0 u1 u2
          have v0 := hS2.out.cell 0
          have v1 := hS2.out.cell 1
          have v2 := hS2.out.cell 2
          have vl := hS2.out.lt
          simp only [List.getElem?_cons_zero, List.getElem?_cons_succ] at v0 v1 v2
          go_simp
          try (with_reducible rfl)
        go_simp
        refine restL_take (i := 2) (v := ?va5) [] rfl (by kernel_rfl) (by kernel_rfl) (by kernel_rfl) (by kernel_rfl) (fun _ _ _ h => h) (Or.inl ⟨by rfl, ?ya5⟩) hHeld ?ra5
        case ya5 =>
          intro w' hSw
          have hS1 : Hid (Row w' w.heap.size 25 [.int .i64 n, .slice (some ad) gn gc, .slice OA on oc]) := hSw.1
          have hS2 : Hid (Row w' (w.heap.size + 1) 32 [.int .i64 2, .int .i64 (n + (j : Int)), .int .i64 0]) := hSw.2.1
          have hS3 := hSw.2.2
          clear hSw
          have u0 := hS1.out.cell 0
          have u1 := hS1.out.cell 1
          have u2 := hS1.out.cell 2
          have ul := hS1.out.lt
          simp only [List.getElem?_cons_zero, List.getElem?_cons_succ] at u0 u1 u2
          have v0 := hS2.out.cell 0
          have v1 := hS2.out.cell 1
          have v2 := hS2.out.cell 2
          have vl := hS2.out.lt
          simp only [List.getElem?_cons_zero, List.getElem?_cons_succ] at v0 v1 v2
          go_simp
          try (with_reducible rfl)
        go_simp
        refine restL_take (i := 5) (v := ?va6) [] rfl (by kernel_rfl) (by kernel_rfl) (by kernel_rfl) (by kernel_rfl) (fun _ _ _ h => h) (Or.inl ⟨by rfl, ?ya6⟩) hHeld ?ra6
        case ya6 =>
          intro w' hSw
          have hS1 : Hid (Row w' w.heap.size 25 [.int .i64 n, .slice (some ad) gn gc, .slice OA on oc]) := hSw.1
          have hS2 : Hid (Row w' (w.heap.size + 1) 32 [.int .i64 2, .int .i64 (n + (j : Int)), .int .i64 0]) := hSw.2.1
          have hS3 := hSw.2.2
          clear hSw
          have u0 := hS1.out.cell 0
          have u1 := hS1.out.cell 1
          have u2 := hS1.out.cell 2
          have ul := hS1.out.lt
          simp only [List.getElem?_cons_zero, List.getElem?_cons_succ] at u0 u1 u2
          have v0 := hS2.out.cell 0
          have v1 := hS2.out.cell 1
          have v2 := hS2.out.cell 2
          have vl := hS2.out.lt
          simp only [List.getElem?_cons_zero, List.getElem?_cons_succ] at v0 v1 v2
          go_simp
          try (with_reducible rfl)
        go_simp
        refine restL_pure (i := 6) (v := ?va7) rfl (by kernel_rfl) (by kernel_rfl) (by kernel_rfl) (fun _ _ _ h => h) (Or.inl ⟨by rfl, ?ya7⟩) ?ra7
        case ya7 => intro w' hSw; clear hSw; go_simp; try (with_reducible rfl)
        go_simp
        refine restL_take (i := 7) (v := ?va8) [] rfl (by kernel_rfl) (by kernel_rfl) (by kernel_rfl) (by kernel_rfl) (fun _ _ _ h => h) (Or.inl ⟨by rfl, ?ya8⟩) hHeld ?ra8
        case ya8 =>
          intro w' hSw
          have hS1 : Hid (Row w' w.heap.size 25 [.int .i64 n, .slice (some ad) gn gc, .slice OA on oc]) := hSw.1
          have hS2 : Hid (Row w' (w.heap.size + 1) 32 [.int .i64 2, .int .i64 (n + (j : Int)), .int .i64 0]) := hSw.2.1
          have hS3 := hSw.2.2
          clear hSw
          have u0 := hS1.out.cell 0
          have u1 := hS1.out.cell 1
          have u2 := hS1.out.cell 2
          have ul := hS1.out.lt
          simp only [List.getElem?_cons_zero, List.getElem?_cons_succ] at u0 u1 u2
          have v0 := hS2.out.cell 0
          have v1 := hS2.out.cell 1
          have v2 := hS2.out.cell 2
          have vl := hS2.out.lt
          simp only [List.getElem?_cons_zero, List.getElem?_cons_succ] at v0 v1 v2
          go_simp
          try (with_reducible rfl)
        go_simp
        refine restL_pure (i := 8) (v := ?va9) rfl (by kernel_rfl) (by kernel_rfl) (by kernel_rfl) (fun _ _ _ h => h) (Or.inl ⟨by rfl, ?ya9⟩) ?ra9
        case ya9 => intro w' hSw; clear hSw; go_simp; try (with_reducible rfl)
        go_simp
        refine restL_take (i := 9) (v := ?va10) [] rfl (by kernel_rfl) (by kernel_rfl) (by kernel_rfl) (by kernel_rfl) (fun _ _ _ h => h) (Or.inl ⟨by rfl, ?ya10⟩) hHeld ?ra10
        case ya10 =>
          intro w' hSw
          have hS1 : Hid (Row w' w.heap.size 25 [.int .i64 n, .slice (some ad) gn gc, .slice OA on oc]) := hSw.1
          have hS2 : Hid (Row w' (w.heap.size + 1) 32 [.int .i64 2, .int .i64 (n + (j : Int)), .int .i64 0]) := hSw.2.1
          have hS3 := hSw.2.2
          clear hSw
          have u0 := hS1.out.cell 0
          have u1 := hS1.out.cell 1
          have u2 := hS1.out.cell 2
          have ul := hS1.out.lt
          simp only [List.getElem?_cons_zero, List.getElem?_cons_succ] at u0 u1 u2
          have v0 := hS2.out.cell 0
          have v1 := hS2.out.cell 1
          have v2 := hS2.out.cell 2
          have vl := hS2.out.lt
          simp only [List.getElem?_cons_zero, List.getElem?_cons_succ] at v0 v1 v2
          go_simp
          try (with_reducible rfl)
        go_simp
        refine restL_one (i := 10) (by kernel_rfl) rfl (fun K hK => ?_)
        have r0 := R3.out.cell 0
        have r1 := R3.out.cell 1
        have r2 := R3.out.cell 2
        have rl := R3.out.lt
        simp only [List.getElem?_cons_zero, List.getElem?_cons_succ] at r0 r1 r2
        have rf0 := R3.out.frozen 0
        have rf1 := R3.out.frozen 1
        have rf2 := R3.out.frozen 2
        go_simp
        have R1e : Hid (Row (World.setCell (World.setCell (World.setCell wQ ⟨(w.heap.size + 1 + 1), 0, none⟩ (.int .i64 2)) ⟨(w.heap.size + 1 + 1), 1, none⟩ (.int .i64 (n + (j : Int)))) ⟨(w.heap.size + 1 + 1), 2, none⟩ (.int .i64 0)) w.heap.size 25 [.int .i64 n, .slice (some ad) gn gc, .slice OA on oc]) := ((((((R1.out).far (p := ⟨(w.heap.size + 1 + 1), 0, none⟩) (by show w.heap.size ≠ (w.heap.size + 1 + 1); omega) (.int .i64 2))).far (p := ⟨(w.heap.size + 1 + 1), 1, none⟩) (by show w.heap.size ≠ (w.heap.size + 1 + 1); omega) (.int .i64 (n + (j : Int))))).far (p := ⟨(w.heap.size + 1 + 1), 2, none⟩) (by show w.heap.size ≠ (w.heap.size + 1 + 1); omega) (.int .i64 0))
        have R2e : Hid (Row (World.setCell (World.setCell (World.setCell wQ ⟨(w.heap.size + 1 + 1), 0, none⟩ (.int .i64 2)) ⟨(w.heap.size + 1 + 1), 1, none⟩ (.int .i64 (n + (j : Int)))) ⟨(w.heap.size + 1 + 1), 2, none⟩ (.int .i64 0)) (w.heap.size + 1) 32 [.int .i64 2, .int .i64 (n + (j : Int)), .int .i64 0]) := ((((((R2.out).far (p := ⟨(w.heap.size + 1 + 1), 0, none⟩) (by show w.heap.size + 1 ≠ (w.heap.size + 1 + 1); omega) (.int .i64 2))).far (p := ⟨(w.heap.size + 1 + 1), 1, none⟩) (by show w.heap.size + 1 ≠ (w.heap.size + 1 + 1); omega) (.int .i64 (n + (j : Int))))).far (p := ⟨(w.heap.size + 1 + 1), 2, none⟩) (by show w.heap.size + 1 ≠ (w.heap.size + 1 + 1); omega) (.int .i64 0))
        have R3e : Hid (Row (World.setCell (World.setCell (World.setCell wQ ⟨(w.heap.size + 1 + 1), 0, none⟩ (.int .i64 2)) ⟨(w.heap.size + 1 + 1), 1, none⟩ (.int .i64 (n + (j : Int)))) ⟨(w.heap.size + 1 + 1), 2, none⟩ (.int .i64 0)) (w.heap.size + 1 + 1) 32 [.int .i64 2, .int .i64 (n + (j : Int)), .int .i64 0]) := (Row.set (Row.set (Row.set R3.out 0 (.int .i64 2)) 1 (.int .i64 (n + (j : Int)))) 2 (.int .i64 0))
        have BWe : Hid (Below w.heap.size w (World.setCell (World.setCell (World.setCell wQ ⟨(w.heap.size + 1 + 1), 0, none⟩ (.int .i64 2)) ⟨(w.heap.size + 1 + 1), 1, none⟩ (.int .i64 (n + (j : Int)))) ⟨(w.heap.size + 1 + 1), 2, none⟩ (.int .i64 0))) := ((((((BW.out).setCell (p := ⟨(w.heap.size + 1 + 1), 0, none⟩) (by show _ ≤ (w.heap.size + 1 + 1); omega) (.int .i64 2))).setCell (p := ⟨(w.heap.size + 1 + 1), 1, none⟩) (by show _ ≤ (w.heap.size + 1 + 1); omega) (.int .i64 (n + (j : Int))))).setCell (p := ⟨(w.heap.size + 1 + 1), 2, none⟩) (by show _ ≤ (w.heap.size + 1 + 1); omega) (.int .i64 0))
        clear R1 R2 R3 BW r0 r1 r2 rl rf0 rf1 rf2
        revert R1e R2e R3e BWe
        generalize (World.setCell (World.setCell (World.setCell wQ ⟨(w.heap.size + 1 + 1), 0, none⟩ (.int .i64 2)) ⟨(w.heap.size + 1 + 1), 1, none⟩ (.int .i64 (n + (j : Int)))) ⟨(w.heap.size + 1 + 1), 2, none⟩ (.int .i64 0)) = w9
        intro R1 R2 R3 BW
        refine hK.out _ _ (fun _ => ?keep) (fun hHeld => ?_)
        case keep => exact ⟨R1.out, R2.out, HCX.out _ BW.out⟩
        have hHeld := hHeld rfl
        clear hK K
        try go_simp
        refine restL_pure (i := 11) (v := ?va11) rfl (by kernel_rfl) (by kernel_rfl) (by kernel_rfl) (fun _ _ _ h => h) (Or.inl ⟨by rfl, ?ya11⟩) ?ra11
        case ya11 => intro w' hSw; clear hSw; go_simp; try (with_reducible rfl)
        go_simp
        refine restL_done (by kernel_rfl) ?_ _
        go_wp2
        have d0 := R3.out.cell 0
        have d1 := R3.out.cell 1
        have d2 := R3.out.cell 2
        simp only [List.getElem?_cons_zero, List.getElem?_cons_succ] at d0 d1 d2
        refine bodyPost_ret (v := .tuple #[.agg #[.int .i64 2, .int .i64 (n + (j : Int)), .int .i64 0], .int .i64 zz]) (by simp [results, Try.results41, go_sem, d0, d1, d2]) rfl ?_
        have HV : notF n gs (n + (j : Int)) = (⟨2, n + (j : Int), 0⟩, zz) := by unfold notF; simp [HP0.out (), HP1.out (), HP2.out (), HZZ.out ()]
        exact ⟨by rw [HV], BW.out⟩
    · skip
      have cR : Hid (Row x2 (w.heap.size) 25 [.int .i64 n, .slice GA gn gc, .slice OA on oc]) := (rowCells RC.out B_wa.out)
      have c0 := cR.out.cell 0
      have c1 := cR.out.cell 1
      have c2 := cR.out.cell 2
      have cl := cR.out.lt
      simp only [List.getElem?_cons_zero, List.getElem?_cons_succ] at c0 c1 c2
      clear cR
      have gR : Hid (Row x2 (w.heap.size + 1) 32 [.int .i64 2, .int .i64 x, .int .i64 0]) := (rowCells RG.out B_wa.out)
      have g0 := gR.out.cell 0
      have g1 := gR.out.cell 1
      have g2 := gR.out.cell 2
      have gl := gR.out.lt
      simp only [List.getElem?_cons_zero, List.getElem?_cons_succ] at g0 g1 g2
      clear gR
      have zR : Hid (Row x2 (wb.heap.size) 32 [.int .i64 0, .int .i64 0, .int .i64 0]) := (rowCells RZ.out B_wc.out)
      have z0 := zR.out.cell 0
      have z1 := zR.out.cell 1
      have z2 := zR.out.cell 2
      have zl := zR.out.lt
      simp only [List.getElem?_cons_zero, List.getElem?_cons_succ] at z0 z1 z2
      clear zR
      have oR : Hid (Row x2 (wb.heap.size + 1) 32 [.int .i64 1, .int .i64 0, .int .i64 0]) := (rowCells RO.out B_wc.out)
      have o0 := oR.out.cell 0
      have o1 := oR.out.cell 1
      have o2 := oR.out.cell 2
      have ol := oR.out.lt
      simp only [List.getElem?_cons_zero, List.getElem?_cons_succ] at o0 o1 o2
      clear oR
      have rR : Hid (Row x2 (w.heap.size + 1 + 1) 32 [.int .i64 0, .int .i64 0, .int .i64 0]) := (rowCells RR.out B_wa.out)
      have r0 := rR.out.cell 0
      have r1 := rR.out.cell 1
      have r2 := rR.out.cell 2
      have rl := rR.out.lt
      simp only [List.getElem?_cons_zero, List.getElem?_cons_succ] at r0 r1 r2
      clear rR
      have RRf : Hid (Row x2 (w.heap.size + 1 + 1) 32 [.int .i64 0, .int .i64 0, .int .i64 0]) := (rowCells RR.out B_wa.out)
      have rf0 := RRf.out.frozen 0
      have rf1 := RRf.out.frozen 1
      have rf2 := RRf.out.frozen 2
      go_wp2
      have Z9 : Row (World.setCell (World.setCell (World.setCell x2 ⟨(w.heap.size + 1 + 1), 0, none⟩ (.int .i64 0)) ⟨(w.heap.size + 1 + 1), 1, none⟩ (.int .i64 0)) ⟨(w.heap.size + 1 + 1), 2, none⟩ (.int .i64 0)) (w.heap.size + 1 + 1) 32 [.int .i64 0, .int .i64 0, .int .i64 0] := (Row.set (Row.set (Row.set RRf.out 0 (.int .i64 0)) 1 (.int .i64 0)) 2 (.int .i64 0))
      have B9 : Below w.heap.size w (World.setCell (World.setCell (World.setCell x2 ⟨(w.heap.size + 1 + 1), 0, none⟩ (.int .i64 0)) ⟨(w.heap.size + 1 + 1), 1, none⟩ (.int .i64 0)) ⟨(w.heap.size + 1 + 1), 2, none⟩ (.int .i64 0)) := (Below.setCell (Below.setCell (Below.setCell B_w.out (p := ⟨(w.heap.size + 1 + 1), 0, none⟩) (by show _ ≤ (w.heap.size + 1 + 1); omega) (.int .i64 0)) (p := ⟨(w.heap.size + 1 + 1), 1, none⟩) (by show _ ≤ (w.heap.size + 1 + 1); omega) (.int .i64 0)) (p := ⟨(w.heap.size + 1 + 1), 2, none⟩) (by show _ ≤ (w.heap.size + 1 + 1); omega) (.int .i64 0))
      have d0 := Z9.cell 0
      have d1 := Z9.cell 1
      have d2 := Z9.cell 2
      simp only [List.getElem?_cons_zero, List.getElem?_cons_succ] at d0 d1 d2
      clear Z9
      refine bodyPost_ret (v := .tuple #[.agg #[.int .i64 0, .int .i64 0, .int .i64 0], .int .i64 (-1)]) (by simp [results, Try.results41, go_sem, d0, d1, d2]) rfl ?_
      have HV := (show notF n gs x = (⟨0, 0, 0⟩, -1) from by unfold notF; simp [HP0.out (), HP1.out ()])
      exact ⟨by rw [HV], B9⟩
  · skip
    have cR : Hid (Row x1 (w.heap.size) 25 [.int .i64 n, .slice GA gn gc, .slice OA on oc]) := (rowCells RC.out B_wa.out)
    have c0 := cR.out.cell 0
    have c1 := cR.out.cell 1
    have c2 := cR.out.cell 2
    have cl := cR.out.lt
    simp only [List.getElem?_cons_zero, List.getElem?_cons_succ] at c0 c1 c2
    clear cR
    have gR : Hid (Row x1 (w.heap.size + 1) 32 [.int .i64 2, .int .i64 x, .int .i64 0]) := (rowCells RG.out B_wa.out)
    have g0 := gR.out.cell 0
    have g1 := gR.out.cell 1
    have g2 := gR.out.cell 2
    have gl := gR.out.lt
    simp only [List.getElem?_cons_zero, List.getElem?_cons_succ] at g0 g1 g2
    clear gR
    have zR : Hid (Row x1 (wb.heap.size) 32 [.int .i64 0, .int .i64 0, .int .i64 0]) := (rowCells RZ.out B_wc.out)
    have z0 := zR.out.cell 0
    have z1 := zR.out.cell 1
    have z2 := zR.out.cell 2
    have zl := zR.out.lt
    simp only [List.getElem?_cons_zero, List.getElem?_cons_succ] at z0 z1 z2
    clear zR
    have oR : Hid (Row x1 (wb.heap.size + 1) 32 [.int .i64 1, .int .i64 0, .int .i64 0]) := (rowCells RO.out B_wc.out)
    have o0 := oR.out.cell 0
    have o1 := oR.out.cell 1
    have o2 := oR.out.cell 2
    have ol := oR.out.lt
    simp only [List.getElem?_cons_zero, List.getElem?_cons_succ] at o0 o1 o2
    clear oR
    have rR : Hid (Row x1 (w.heap.size + 1 + 1) 32 [.int .i64 0, .int .i64 0, .int .i64 0]) := (rowCells RR.out B_wa.out)
    have r0 := rR.out.cell 0
    have r1 := rR.out.cell 1
    have r2 := rR.out.cell 2
    have rl := rR.out.lt
    simp only [List.getElem?_cons_zero, List.getElem?_cons_succ] at r0 r1 r2
    clear rR
    have RRf : Hid (Row x1 (w.heap.size + 1 + 1) 32 [.int .i64 0, .int .i64 0, .int .i64 0]) := (rowCells RR.out B_wa.out)
    have rf0 := RRf.out.frozen 0
    have rf1 := RRf.out.frozen 1
    have rf2 := RRf.out.frozen 2
    go_wp2
    have Z9 : Row (World.setCell (World.setCell (World.setCell x1 ⟨(w.heap.size + 1 + 1), 0, none⟩ (.int .i64 1)) ⟨(w.heap.size + 1 + 1), 1, none⟩ (.int .i64 0)) ⟨(w.heap.size + 1 + 1), 2, none⟩ (.int .i64 0)) (w.heap.size + 1 + 1) 32 [.int .i64 1, .int .i64 0, .int .i64 0] := (Row.set (Row.set (Row.set RRf.out 0 (.int .i64 1)) 1 (.int .i64 0)) 2 (.int .i64 0))
    have B9 : Below w.heap.size w (World.setCell (World.setCell (World.setCell x1 ⟨(w.heap.size + 1 + 1), 0, none⟩ (.int .i64 1)) ⟨(w.heap.size + 1 + 1), 1, none⟩ (.int .i64 0)) ⟨(w.heap.size + 1 + 1), 2, none⟩ (.int .i64 0)) := (Below.setCell (Below.setCell (Below.setCell B_w.out (p := ⟨(w.heap.size + 1 + 1), 0, none⟩) (by show _ ≤ (w.heap.size + 1 + 1); omega) (.int .i64 1)) (p := ⟨(w.heap.size + 1 + 1), 1, none⟩) (by show _ ≤ (w.heap.size + 1 + 1); omega) (.int .i64 0)) (p := ⟨(w.heap.size + 1 + 1), 2, none⟩) (by show _ ≤ (w.heap.size + 1 + 1); omega) (.int .i64 0))
    have d0 := Z9.cell 0
    have d1 := Z9.cell 1
    have d2 := Z9.cell 2
    simp only [List.getElem?_cons_zero, List.getElem?_cons_succ] at d0 d1 d2
    clear Z9
    refine bodyPost_ret (v := .tuple #[.agg #[.int .i64 1, .int .i64 0, .int .i64 0], .int .i64 (-1)]) (by simp [results, Try.results41, go_sem, d0, d1, d2]) rfl ?_
    have HV := (show notF n gs x = (⟨1, 0, 0⟩, -1) from by unfold notF; simp [HP0.out ()])
    exact ⟨by rw [HV], B9⟩
set_option maxRecDepth 100000 in
set_option maxHeartbeats 8000000 in
theorem rXor_any (n : Int) (gs : List Gt) (GA OA : Option Addr) (gn gc on oc : Nat) (x y : Int) (w : World) (hG : Rd w w.heap.size 3 GA gn (gatesCells gs)) (hn : 0 ≤ n ∧ n ≤ 1000) (hg : gn ≤ 20000) (hx : 0 ≤ x ∧ x < n + (gn : Int)) (hy : 0 ≤ y ∧ y < n + (gn : Int)) :
    Calls Try.prog 66 #[.agg #[.int .i64 n, .slice GA gn gc, .slice OA on oc], .agg #[.int .i64 5, .int .i64 x, .int .i64 y]] w (fun e w' => e = .returned (.tuple #[.agg #[.int .i64 (xorF n gs ⟨5, x, y⟩).1.op, .int .i64 (xorF n gs ⟨5, x, y⟩).1.a, .int .i64 (xorF n gs ⟨5, x, y⟩).1.b], .int .i64 (xorF n gs ⟨5, x, y⟩).2]) ∧ Below w.heap.size w w') := by
  have HG : Hid (Rd w w.heap.size 3 GA gn (gatesCells gs)) := hG
  have HBx : Hid (0 ≤ x ∧ x < n + (gn : Int)) := hx
  have HBy : Hid (0 ≤ y ∧ y < n + (gn : Int)) := hy
  clear hG hx hy
  obtain ⟨P0, hP0⟩ : ∃ q, isW n gs (x) 0 = q := ⟨_, rfl⟩
  have HP0 : Hid (∀ _ : Unit, isW n gs (x) 0 = P0) := fun _ => hP0
  clear hP0
  obtain ⟨P1, hP1⟩ : ∃ q, isW n gs (y) 0 = q := ⟨_, rfl⟩
  have HP1 : Hid (∀ _ : Unit, isW n gs (y) 0 = P1) := fun _ => hP1
  clear hP1
  obtain ⟨P3, hP3⟩ : ∃ q, isW n gs (x) 1 = q := ⟨_, rfl⟩
  have HP3 : Hid (∀ _ : Unit, isW n gs (x) 1 = P3) := fun _ => hP3
  clear hP3
  obtain ⟨P4, hP4⟩ : ∃ q, isW n gs (y) 1 = q := ⟨_, rfl⟩
  have HP4 : Hid (∀ _ : Unit, isW n gs (y) 1 = P4) := fun _ => hP4
  clear hP4
  obtain ⟨P2, hP2⟩ : ∃ q, oppW n gs x y = q := ⟨_, rfl⟩
  have HP2 : Hid (∀ _ : Unit, oppW n gs x y = P2) := fun _ => hP2
  clear hP2
  go_enter Try.func66, Try.ntmps66
  go_upto_region 1 with fail
  have RC : Hid (Row (World.alloc (World.alloc (World.alloc w (.cells #[.int .i64 n, .slice GA gn gc, .slice OA on oc] 25)) (.cells #[.int .i64 5, .int .i64 x, .int .i64 y] 32)) (.cells #[.int .i64 0, .int .i64 0, .int .i64 0] 32)) (w.heap.size) 25 [.int .i64 n, .slice GA gn gc, .slice OA on oc]) := by
    have h0 := Row.new w 25 [.int .i64 n, .slice GA gn gc, .slice OA on oc]
    try simp only [World.size_alloc] at h0
    exact ((h0.alloc _).alloc _)
  have RG : Hid (Row (World.alloc (World.alloc (World.alloc w (.cells #[.int .i64 n, .slice GA gn gc, .slice OA on oc] 25)) (.cells #[.int .i64 5, .int .i64 x, .int .i64 y] 32)) (.cells #[.int .i64 0, .int .i64 0, .int .i64 0] 32)) (w.heap.size + 1) 32 [.int .i64 5, .int .i64 x, .int .i64 y]) := by
    have h0 := Row.new (World.alloc w (.cells #[.int .i64 n, .slice GA gn gc, .slice OA on oc] 25)) 32 [.int .i64 5, .int .i64 x, .int .i64 y]
    try simp only [World.size_alloc] at h0
    exact (h0.alloc _)
  have RR : Hid (Row (World.alloc (World.alloc (World.alloc w (.cells #[.int .i64 n, .slice GA gn gc, .slice OA on oc] 25)) (.cells #[.int .i64 5, .int .i64 x, .int .i64 y] 32)) (.cells #[.int .i64 0, .int .i64 0, .int .i64 0] 32)) (w.heap.size + 1 + 1) 32 [.int .i64 0, .int .i64 0, .int .i64 0]) := by
    have h0 := Row.new (World.alloc (World.alloc w (.cells #[.int .i64 n, .slice GA gn gc, .slice OA on oc] 25)) (.cells #[.int .i64 5, .int .i64 x, .int .i64 y] 32)) 32 [.int .i64 0, .int .i64 0, .int .i64 0]
    try simp only [World.size_alloc] at h0
    exact h0
  have hgr9 : Below w.heap.size w (World.alloc (World.alloc (World.alloc w (.cells #[.int .i64 n, .slice GA gn gc, .slice OA on oc] 25)) (.cells #[.int .i64 5, .int .i64 x, .int .i64 y] 32)) (.cells #[.int .i64 0, .int .i64 0, .int .i64 0] 32)) := by go_grown
  have B_w : Hid (Below w.heap.size w (World.alloc (World.alloc (World.alloc w (.cells #[.int .i64 n, .slice GA gn gc, .slice OA on oc] 25)) (.cells #[.int .i64 5, .int .i64 x, .int .i64 y] 32)) (.cells #[.int .i64 0, .int .i64 0, .int .i64 0] 32))) := hgr9
  clear hgr9
  revert RC RG RR B_w
  generalize (World.alloc (World.alloc (World.alloc w (.cells #[.int .i64 n, .slice GA gn gc, .slice OA on oc] 25)) (.cells #[.int .i64 5, .int .i64 x, .int .i64 y] 32)) (.cells #[.int .i64 0, .int .i64 0, .int .i64 0] 32)) = wa
  intro RC RG RR B_w
  have hwa : w.heap.size + 1 + 1 < wa.heap.size := RR.out.lt
  have gR : Hid (Row wa (w.heap.size + 1) 32 [.int .i64 5, .int .i64 x, .int .i64 y]) := RG.out
  have g0 := gR.out.cell 0
  have g1 := gR.out.cell 1
  have g2 := gR.out.cell 2
  have gl := gR.out.lt
  simp only [List.getElem?_cons_zero, List.getElem?_cons_succ] at g0 g1 g2
  clear gR
  go_quiet (fail)
  have B_w : Hid (Below w.heap.size w (wa.drewN nq)) := below_drewN B_w.out nq
  have B_wa : Hid (Below wa.heap.size wa (wa.drewN nq)) := below_drewN (Below.refl _ _) nq
  clear g0 g1 g2 gl
  revert B_w B_wa
  generalize (wa.drewN nq) = wb
  intro B_w B_wa
  have cR : Hid (Row wb (w.heap.size) 25 [.int .i64 n, .slice GA gn gc, .slice OA on oc]) := (rowCells RC.out B_wa.out)
  have c0 := cR.out.cell 0
  have c1 := cR.out.cell 1
  have c2 := cR.out.cell 2
  have cl := cR.out.lt
  simp only [List.getElem?_cons_zero, List.getElem?_cons_succ] at c0 c1 c2
  clear cR
  have gR : Hid (Row wb (w.heap.size + 1) 32 [.int .i64 5, .int .i64 x, .int .i64 y]) := (rowCells RG.out B_wa.out)
  have g0 := gR.out.cell 0
  have g1 := gR.out.cell 1
  have g2 := gR.out.cell 2
  have gl := gR.out.lt
  simp only [List.getElem?_cons_zero, List.getElem?_cons_succ] at g0 g1 g2
  clear gR
  go_wp2_with fail
  have HC := rIs_any n gs GA OA gn gc on oc (x) 0 wb ((HG.out.up B_w.out)) hn hg HBx.out.2 (by have := HBx.out.1; omega)
  rw [HP0.out ()] at HC
  refine HC.mono ?_
  clear HC
  rintro e x4 ⟨rfl, hb⟩
  have B_w : Hid (Below w.heap.size w x4) := below_on2 B_w.out hb
  have B_wa : Hid (Below wa.heap.size wa x4) := below_on2 B_wa.out hb
  have B_wb : Hid (Below wb.heap.size wb x4) := hb
  clear c0 c1 c2 cl g0 g1 g2 gl
  clear hb
  cases P0
  · skip
    have cR : Hid (Row x4 (w.heap.size) 25 [.int .i64 n, .slice GA gn gc, .slice OA on oc]) := (rowCells RC.out B_wa.out)
    have c0 := cR.out.cell 0
    have c1 := cR.out.cell 1
    have c2 := cR.out.cell 2
    have cl := cR.out.lt
    simp only [List.getElem?_cons_zero, List.getElem?_cons_succ] at c0 c1 c2
    clear cR
    have gR : Hid (Row x4 (w.heap.size + 1) 32 [.int .i64 5, .int .i64 x, .int .i64 y]) := (rowCells RG.out B_wa.out)
    have g0 := gR.out.cell 0
    have g1 := gR.out.cell 1
    have g2 := gR.out.cell 2
    have gl := gR.out.lt
    simp only [List.getElem?_cons_zero, List.getElem?_cons_succ] at g0 g1 g2
    clear gR
    go_wp2_with fail
    have HC := rIs_any n gs GA OA gn gc on oc (y) 0 x4 ((HG.out.up B_w.out)) hn hg HBy.out.2 (by have := HBy.out.1; omega)
    rw [HP1.out ()] at HC
    refine HC.mono ?_
    clear HC
    rintro e x5 ⟨rfl, hb⟩
    have B_w : Hid (Below w.heap.size w x5) := below_on2 B_w.out hb
    have B_wa : Hid (Below wa.heap.size wa x5) := below_on2 B_wa.out hb
    have B_wb : Hid (Below wb.heap.size wb x5) := below_on2 B_wb.out hb
    have B_x4 : Hid (Below x4.heap.size x4 x5) := hb
    clear c0 c1 c2 cl g0 g1 g2 gl
    clear hb
    cases P1
    · skip
      by_cases hxy : x = y
      · subst hxy
        have cR : Hid (Row x5 (w.heap.size) 25 [.int .i64 n, .slice GA gn gc, .slice OA on oc]) := (rowCells RC.out B_wa.out)
        have c0 := cR.out.cell 0
        have c1 := cR.out.cell 1
        have c2 := cR.out.cell 2
        have cl := cR.out.lt
        simp only [List.getElem?_cons_zero, List.getElem?_cons_succ] at c0 c1 c2
        clear cR
        have gR : Hid (Row x5 (w.heap.size + 1) 32 [.int .i64 5, .int .i64 x, .int .i64 x]) := (rowCells RG.out B_wa.out)
        have g0 := gR.out.cell 0
        have g1 := gR.out.cell 1
        have g2 := gR.out.cell 2
        have gl := gR.out.lt
        simp only [List.getElem?_cons_zero, List.getElem?_cons_succ] at g0 g1 g2
        clear gR
        have rR : Hid (Row x5 (w.heap.size + 1 + 1) 32 [.int .i64 0, .int .i64 0, .int .i64 0]) := (rowCells RR.out B_wa.out)
        have r0 := rR.out.cell 0
        have r1 := rR.out.cell 1
        have r2 := rR.out.cell 2
        have rl := rR.out.lt
        simp only [List.getElem?_cons_zero, List.getElem?_cons_succ] at r0 r1 r2
        clear rR
        have RRf : Hid (Row x5 (w.heap.size + 1 + 1) 32 [.int .i64 0, .int .i64 0, .int .i64 0]) := (rowCells RR.out B_wa.out)
        have rf0 := RRf.out.frozen 0
        have rf1 := RRf.out.frozen 1
        have rf2 := RRf.out.frozen 2
        go_wp2
        have Z9 : Row (World.setCell (World.setCell (World.setCell x5 ⟨(w.heap.size + 1 + 1), 0, none⟩ (.int .i64 0)) ⟨(w.heap.size + 1 + 1), 1, none⟩ (.int .i64 0)) ⟨(w.heap.size + 1 + 1), 2, none⟩ (.int .i64 0)) (w.heap.size + 1 + 1) 32 [.int .i64 0, .int .i64 0, .int .i64 0] := (Row.set (Row.set (Row.set RRf.out 0 (.int .i64 0)) 1 (.int .i64 0)) 2 (.int .i64 0))
        have B9 : Below w.heap.size w (World.setCell (World.setCell (World.setCell x5 ⟨(w.heap.size + 1 + 1), 0, none⟩ (.int .i64 0)) ⟨(w.heap.size + 1 + 1), 1, none⟩ (.int .i64 0)) ⟨(w.heap.size + 1 + 1), 2, none⟩ (.int .i64 0)) := (Below.setCell (Below.setCell (Below.setCell B_w.out (p := ⟨(w.heap.size + 1 + 1), 0, none⟩) (by show _ ≤ (w.heap.size + 1 + 1); omega) (.int .i64 0)) (p := ⟨(w.heap.size + 1 + 1), 1, none⟩) (by show _ ≤ (w.heap.size + 1 + 1); omega) (.int .i64 0)) (p := ⟨(w.heap.size + 1 + 1), 2, none⟩) (by show _ ≤ (w.heap.size + 1 + 1); omega) (.int .i64 0))
        have d0 := Z9.cell 0
        have d1 := Z9.cell 1
        have d2 := Z9.cell 2
        simp only [List.getElem?_cons_zero, List.getElem?_cons_succ] at d0 d1 d2
        clear Z9
        refine bodyPost_ret (v := .tuple #[.agg #[.int .i64 0, .int .i64 0, .int .i64 0], .int .i64 (-1)]) (by simp [results, Try.results66, go_sem, d0, d1, d2]) rfl ?_
        have HV := (show xorF n gs ⟨5, x, x⟩ = (⟨0, 0, 0⟩, -1) from by unfold xorF; simp [HP0.out (), HP1.out ()])
        exact ⟨by rw [HV], B9⟩
      · have he1 : (x == y) = false := by simpa using hxy
        have he2 : decide (x = y) = false := decide_eq_false hxy
        have cR : Hid (Row x5 (w.heap.size) 25 [.int .i64 n, .slice GA gn gc, .slice OA on oc]) := (rowCells RC.out B_wa.out)
        have c0 := cR.out.cell 0
        have c1 := cR.out.cell 1
        have c2 := cR.out.cell 2
        have cl := cR.out.lt
        simp only [List.getElem?_cons_zero, List.getElem?_cons_succ] at c0 c1 c2
        clear cR
        have gR : Hid (Row x5 (w.heap.size + 1) 32 [.int .i64 5, .int .i64 x, .int .i64 y]) := (rowCells RG.out B_wa.out)
        have g0 := gR.out.cell 0
        have g1 := gR.out.cell 1
        have g2 := gR.out.cell 2
        have gl := gR.out.lt
        simp only [List.getElem?_cons_zero, List.getElem?_cons_succ] at g0 g1 g2
        clear gR
        go_wp2_with fail
        have HC := rOpp_any n gs GA OA gn gc on oc x y x5 ((HG.out.up B_w.out)) hn hg HBx.out.2 (by have := HBx.out.1; omega) HBy.out.2 (by have := HBy.out.1; omega)
        rw [HP2.out ()] at HC
        refine HC.mono ?_
        clear HC
        rintro e x6 ⟨rfl, hb⟩
        have B_w : Hid (Below w.heap.size w x6) := below_on2 B_w.out hb
        have B_wa : Hid (Below wa.heap.size wa x6) := below_on2 B_wa.out hb
        have B_wb : Hid (Below wb.heap.size wb x6) := below_on2 B_wb.out hb
        have B_x4 : Hid (Below x4.heap.size x4 x6) := below_on2 B_x4.out hb
        have B_x5 : Hid (Below x5.heap.size x5 x6) := hb
        clear c0 c1 c2 cl g0 g1 g2 gl
        clear hb
        cases P2
        · skip
          have cR : Hid (Row x6 (w.heap.size) 25 [.int .i64 n, .slice GA gn gc, .slice OA on oc]) := (rowCells RC.out B_wa.out)
          have c0 := cR.out.cell 0
          have c1 := cR.out.cell 1
          have c2 := cR.out.cell 2
          have cl := cR.out.lt
          simp only [List.getElem?_cons_zero, List.getElem?_cons_succ] at c0 c1 c2
          clear cR
          have gR : Hid (Row x6 (w.heap.size + 1) 32 [.int .i64 5, .int .i64 x, .int .i64 y]) := (rowCells RG.out B_wa.out)
          have g0 := gR.out.cell 0
          have g1 := gR.out.cell 1
          have g2 := gR.out.cell 2
          have gl := gR.out.lt
          simp only [List.getElem?_cons_zero, List.getElem?_cons_succ] at g0 g1 g2
          clear gR
          go_wp2_with fail
          have HC := rIs_any n gs GA OA gn gc on oc (x) 1 x6 ((HG.out.up B_w.out)) hn hg HBx.out.2 (by have := HBx.out.1; omega)
          rw [HP3.out ()] at HC
          refine HC.mono ?_
          clear HC
          rintro e x7 ⟨rfl, hb⟩
          have B_w : Hid (Below w.heap.size w x7) := below_on2 B_w.out hb
          have B_wa : Hid (Below wa.heap.size wa x7) := below_on2 B_wa.out hb
          have B_wb : Hid (Below wb.heap.size wb x7) := below_on2 B_wb.out hb
          have B_x4 : Hid (Below x4.heap.size x4 x7) := below_on2 B_x4.out hb
          have B_x5 : Hid (Below x5.heap.size x5 x7) := below_on2 B_x5.out hb
          have B_x6 : Hid (Below x6.heap.size x6 x7) := hb
          clear c0 c1 c2 cl g0 g1 g2 gl
          clear hb
          cases P3
          · skip
            have cR : Hid (Row x7 (w.heap.size) 25 [.int .i64 n, .slice GA gn gc, .slice OA on oc]) := (rowCells RC.out B_wa.out)
            have c0 := cR.out.cell 0
            have c1 := cR.out.cell 1
            have c2 := cR.out.cell 2
            have cl := cR.out.lt
            simp only [List.getElem?_cons_zero, List.getElem?_cons_succ] at c0 c1 c2
            clear cR
            have gR : Hid (Row x7 (w.heap.size + 1) 32 [.int .i64 5, .int .i64 x, .int .i64 y]) := (rowCells RG.out B_wa.out)
            have g0 := gR.out.cell 0
            have g1 := gR.out.cell 1
            have g2 := gR.out.cell 2
            have gl := gR.out.lt
            simp only [List.getElem?_cons_zero, List.getElem?_cons_succ] at g0 g1 g2
            clear gR
            go_wp2_with fail
            have HC := rIs_any n gs GA OA gn gc on oc (y) 1 x7 ((HG.out.up B_w.out)) hn hg HBy.out.2 (by have := HBy.out.1; omega)
            rw [HP4.out ()] at HC
            refine HC.mono ?_
            clear HC
            rintro e x9 ⟨rfl, hb⟩
            have B_w : Hid (Below w.heap.size w x9) := below_on2 B_w.out hb
            have B_wa : Hid (Below wa.heap.size wa x9) := below_on2 B_wa.out hb
            have B_wb : Hid (Below wb.heap.size wb x9) := below_on2 B_wb.out hb
            have B_x4 : Hid (Below x4.heap.size x4 x9) := below_on2 B_x4.out hb
            have B_x5 : Hid (Below x5.heap.size x5 x9) := below_on2 B_x5.out hb
            have B_x6 : Hid (Below x6.heap.size x6 x9) := below_on2 B_x6.out hb
            have B_x7 : Hid (Below x7.heap.size x7 x9) := hb
            clear c0 c1 c2 cl g0 g1 g2 gl
            clear hb
            cases P4
            · skip
              have cR : Hid (Row x9 (w.heap.size) 25 [.int .i64 n, .slice GA gn gc, .slice OA on oc]) := (rowCells RC.out B_wa.out)
              have c0 := cR.out.cell 0
              have c1 := cR.out.cell 1
              have c2 := cR.out.cell 2
              have cl := cR.out.lt
              simp only [List.getElem?_cons_zero, List.getElem?_cons_succ] at c0 c1 c2
              clear cR
              have gR : Hid (Row x9 (w.heap.size + 1) 32 [.int .i64 5, .int .i64 x, .int .i64 y]) := (rowCells RG.out B_wa.out)
              have g0 := gR.out.cell 0
              have g1 := gR.out.cell 1
              have g2 := gR.out.cell 2
              have gl := gR.out.lt
              simp only [List.getElem?_cons_zero, List.getElem?_cons_succ] at g0 g1 g2
              clear gR
              have rR : Hid (Row x9 (w.heap.size + 1 + 1) 32 [.int .i64 0, .int .i64 0, .int .i64 0]) := (rowCells RR.out B_wa.out)
              have r0 := rR.out.cell 0
              have r1 := rR.out.cell 1
              have r2 := rR.out.cell 2
              have rl := rR.out.lt
              simp only [List.getElem?_cons_zero, List.getElem?_cons_succ] at r0 r1 r2
              clear rR
              have RRf : Hid (Row x9 (w.heap.size + 1 + 1) 32 [.int .i64 0, .int .i64 0, .int .i64 0]) := (rowCells RR.out B_wa.out)
              have rf0 := RRf.out.frozen 0
              have rf1 := RRf.out.frozen 1
              have rf2 := RRf.out.frozen 2
              go_wp2
              have Z9 : Row (World.setCell (World.setCell (World.setCell x9 ⟨(w.heap.size + 1 + 1), 0, none⟩ (.int .i64 5)) ⟨(w.heap.size + 1 + 1), 1, none⟩ (.int .i64 x)) ⟨(w.heap.size + 1 + 1), 2, none⟩ (.int .i64 y)) (w.heap.size + 1 + 1) 32 [.int .i64 5, .int .i64 x, .int .i64 y] := (Row.set (Row.set (Row.set RRf.out 0 (.int .i64 5)) 1 (.int .i64 x)) 2 (.int .i64 y))
              have B9 : Below w.heap.size w (World.setCell (World.setCell (World.setCell x9 ⟨(w.heap.size + 1 + 1), 0, none⟩ (.int .i64 5)) ⟨(w.heap.size + 1 + 1), 1, none⟩ (.int .i64 x)) ⟨(w.heap.size + 1 + 1), 2, none⟩ (.int .i64 y)) := (Below.setCell (Below.setCell (Below.setCell B_w.out (p := ⟨(w.heap.size + 1 + 1), 0, none⟩) (by show _ ≤ (w.heap.size + 1 + 1); omega) (.int .i64 5)) (p := ⟨(w.heap.size + 1 + 1), 1, none⟩) (by show _ ≤ (w.heap.size + 1 + 1); omega) (.int .i64 x)) (p := ⟨(w.heap.size + 1 + 1), 2, none⟩) (by show _ ≤ (w.heap.size + 1 + 1); omega) (.int .i64 y))
              have d0 := Z9.cell 0
              have d1 := Z9.cell 1
              have d2 := Z9.cell 2
              simp only [List.getElem?_cons_zero, List.getElem?_cons_succ] at d0 d1 d2
              clear Z9
              refine bodyPost_ret (v := .tuple #[.agg #[.int .i64 5, .int .i64 x, .int .i64 y], .int .i64 (-1)]) (by simp [results, Try.results66, go_sem, d0, d1, d2]) rfl ?_
              have HV := (show xorF n gs ⟨5, x, y⟩ = (⟨5, x, y⟩, -1) from by unfold xorF; simp [HP0.out (), HP1.out (), HP2.out (), HP3.out (), HP4.out (), hxy])
              exact ⟨by rw [HV], B9⟩
            · skip
              obtain ⟨p, hp⟩ : ∃ p, notF n gs x = p := ⟨_, rfl⟩
              have HP : Hid (∀ _ : Unit, notF n gs x = p) := fun _ => hp
              clear hp
              obtain ⟨⟨po, pa, pb⟩, pz⟩ := p
              have cR : Hid (Row x9 (w.heap.size) 25 [.int .i64 n, .slice GA gn gc, .slice OA on oc]) := (rowCells RC.out B_wa.out)
              have c0 := cR.out.cell 0
              have c1 := cR.out.cell 1
              have c2 := cR.out.cell 2
              have cl := cR.out.lt
              simp only [List.getElem?_cons_zero, List.getElem?_cons_succ] at c0 c1 c2
              clear cR
              have gR : Hid (Row x9 (w.heap.size + 1) 32 [.int .i64 5, .int .i64 x, .int .i64 y]) := (rowCells RG.out B_wa.out)
              have g0 := gR.out.cell 0
              have g1 := gR.out.cell 1
              have g2 := gR.out.cell 2
              have gl := gR.out.lt
              simp only [List.getElem?_cons_zero, List.getElem?_cons_succ] at g0 g1 g2
              clear gR
              go_wp2_with fail
              have HC := rNot_any n gs GA OA gn gc on oc x x9 ((HG.out.up B_w.out)) hn hg HBx.out
              rw [HP.out ()] at HC
              refine HC.mono ?_
              clear HC
              rintro e x10 ⟨rfl, hb⟩
              have B_w : Hid (Below w.heap.size w x10) := below_on2 B_w.out hb
              have B_wa : Hid (Below wa.heap.size wa x10) := below_on2 B_wa.out hb
              have B_wb : Hid (Below wb.heap.size wb x10) := below_on2 B_wb.out hb
              have B_x4 : Hid (Below x4.heap.size x4 x10) := below_on2 B_x4.out hb
              have B_x5 : Hid (Below x5.heap.size x5 x10) := below_on2 B_x5.out hb
              have B_x6 : Hid (Below x6.heap.size x6 x10) := below_on2 B_x6.out hb
              have B_x7 : Hid (Below x7.heap.size x7 x10) := below_on2 B_x7.out hb
              have B_x9 : Hid (Below x9.heap.size x9 x10) := hb
              clear c0 c1 c2 cl g0 g1 g2 gl
              clear hb
              have cR : Hid (Row x10 (w.heap.size) 25 [.int .i64 n, .slice GA gn gc, .slice OA on oc]) := (rowCells RC.out B_wa.out)
              have c0 := cR.out.cell 0
              have c1 := cR.out.cell 1
              have c2 := cR.out.cell 2
              have cl := cR.out.lt
              simp only [List.getElem?_cons_zero, List.getElem?_cons_succ] at c0 c1 c2
              clear cR
              have gR : Hid (Row x10 (w.heap.size + 1) 32 [.int .i64 5, .int .i64 x, .int .i64 y]) := (rowCells RG.out B_wa.out)
              have g0 := gR.out.cell 0
              have g1 := gR.out.cell 1
              have g2 := gR.out.cell 2
              have gl := gR.out.lt
              simp only [List.getElem?_cons_zero, List.getElem?_cons_succ] at g0 g1 g2
              clear gR
              have rR : Hid (Row x10 (w.heap.size + 1 + 1) 32 [.int .i64 0, .int .i64 0, .int .i64 0]) := (rowCells RR.out B_wa.out)
              have r0 := rR.out.cell 0
              have r1 := rR.out.cell 1
              have r2 := rR.out.cell 2
              have rl := rR.out.lt
              simp only [List.getElem?_cons_zero, List.getElem?_cons_succ] at r0 r1 r2
              clear rR
              have RRf : Hid (Row x10 (w.heap.size + 1 + 1) 32 [.int .i64 0, .int .i64 0, .int .i64 0]) := (rowCells RR.out B_wa.out)
              have rf0 := RRf.out.frozen 0
              have rf1 := RRf.out.frozen 1
              have rf2 := RRf.out.frozen 2
              go_wp2
              have Z9 : Row (World.setCell (World.setCell (World.setCell x10 ⟨(w.heap.size + 1 + 1), 0, none⟩ (.int .i64 po)) ⟨(w.heap.size + 1 + 1), 1, none⟩ (.int .i64 pa)) ⟨(w.heap.size + 1 + 1), 2, none⟩ (.int .i64 pb)) (w.heap.size + 1 + 1) 32 [.int .i64 po, .int .i64 pa, .int .i64 pb] := (Row.set (Row.set (Row.set RRf.out 0 (.int .i64 po)) 1 (.int .i64 pa)) 2 (.int .i64 pb))
              have B9 : Below w.heap.size w (World.setCell (World.setCell (World.setCell x10 ⟨(w.heap.size + 1 + 1), 0, none⟩ (.int .i64 po)) ⟨(w.heap.size + 1 + 1), 1, none⟩ (.int .i64 pa)) ⟨(w.heap.size + 1 + 1), 2, none⟩ (.int .i64 pb)) := (Below.setCell (Below.setCell (Below.setCell B_w.out (p := ⟨(w.heap.size + 1 + 1), 0, none⟩) (by show _ ≤ (w.heap.size + 1 + 1); omega) (.int .i64 po)) (p := ⟨(w.heap.size + 1 + 1), 1, none⟩) (by show _ ≤ (w.heap.size + 1 + 1); omega) (.int .i64 pa)) (p := ⟨(w.heap.size + 1 + 1), 2, none⟩) (by show _ ≤ (w.heap.size + 1 + 1); omega) (.int .i64 pb))
              have d0 := Z9.cell 0
              have d1 := Z9.cell 1
              have d2 := Z9.cell 2
              simp only [List.getElem?_cons_zero, List.getElem?_cons_succ] at d0 d1 d2
              clear Z9
              refine bodyPost_ret (v := .tuple #[.agg #[.int .i64 po, .int .i64 pa, .int .i64 pb], .int .i64 (pz)]) (by simp [results, Try.results66, go_sem, d0, d1, d2]) rfl ?_
              have HV := (show xorF n gs ⟨5, x, y⟩ = (⟨po, pa, pb⟩, pz) from by unfold xorF; simp [HP0.out (), HP1.out (), HP2.out (), HP3.out (), HP4.out (), HP.out (), hxy])
              exact ⟨by rw [HV], B9⟩
          · skip
            obtain ⟨p, hp⟩ : ∃ p, notF n gs y = p := ⟨_, rfl⟩
            have HP : Hid (∀ _ : Unit, notF n gs y = p) := fun _ => hp
            clear hp
            obtain ⟨⟨po, pa, pb⟩, pz⟩ := p
            have cR : Hid (Row x7 (w.heap.size) 25 [.int .i64 n, .slice GA gn gc, .slice OA on oc]) := (rowCells RC.out B_wa.out)
            have c0 := cR.out.cell 0
            have c1 := cR.out.cell 1
            have c2 := cR.out.cell 2
            have cl := cR.out.lt
            simp only [List.getElem?_cons_zero, List.getElem?_cons_succ] at c0 c1 c2
            clear cR
            have gR : Hid (Row x7 (w.heap.size + 1) 32 [.int .i64 5, .int .i64 x, .int .i64 y]) := (rowCells RG.out B_wa.out)
            have g0 := gR.out.cell 0
            have g1 := gR.out.cell 1
            have g2 := gR.out.cell 2
            have gl := gR.out.lt
            simp only [List.getElem?_cons_zero, List.getElem?_cons_succ] at g0 g1 g2
            clear gR
            go_wp2_with fail
            have HC := rNot_any n gs GA OA gn gc on oc y x7 ((HG.out.up B_w.out)) hn hg HBy.out
            rw [HP.out ()] at HC
            refine HC.mono ?_
            clear HC
            rintro e x8 ⟨rfl, hb⟩
            have B_w : Hid (Below w.heap.size w x8) := below_on2 B_w.out hb
            have B_wa : Hid (Below wa.heap.size wa x8) := below_on2 B_wa.out hb
            have B_wb : Hid (Below wb.heap.size wb x8) := below_on2 B_wb.out hb
            have B_x4 : Hid (Below x4.heap.size x4 x8) := below_on2 B_x4.out hb
            have B_x5 : Hid (Below x5.heap.size x5 x8) := below_on2 B_x5.out hb
            have B_x6 : Hid (Below x6.heap.size x6 x8) := below_on2 B_x6.out hb
            have B_x7 : Hid (Below x7.heap.size x7 x8) := hb
            clear c0 c1 c2 cl g0 g1 g2 gl
            clear hb
            have cR : Hid (Row x8 (w.heap.size) 25 [.int .i64 n, .slice GA gn gc, .slice OA on oc]) := (rowCells RC.out B_wa.out)
            have c0 := cR.out.cell 0
            have c1 := cR.out.cell 1
            have c2 := cR.out.cell 2
            have cl := cR.out.lt
            simp only [List.getElem?_cons_zero, List.getElem?_cons_succ] at c0 c1 c2
            clear cR
            have gR : Hid (Row x8 (w.heap.size + 1) 32 [.int .i64 5, .int .i64 x, .int .i64 y]) := (rowCells RG.out B_wa.out)
            have g0 := gR.out.cell 0
            have g1 := gR.out.cell 1
            have g2 := gR.out.cell 2
            have gl := gR.out.lt
            simp only [List.getElem?_cons_zero, List.getElem?_cons_succ] at g0 g1 g2
            clear gR
            have rR : Hid (Row x8 (w.heap.size + 1 + 1) 32 [.int .i64 0, .int .i64 0, .int .i64 0]) := (rowCells RR.out B_wa.out)
            have r0 := rR.out.cell 0
            have r1 := rR.out.cell 1
            have r2 := rR.out.cell 2
            have rl := rR.out.lt
            simp only [List.getElem?_cons_zero, List.getElem?_cons_succ] at r0 r1 r2
            clear rR
            have RRf : Hid (Row x8 (w.heap.size + 1 + 1) 32 [.int .i64 0, .int .i64 0, .int .i64 0]) := (rowCells RR.out B_wa.out)
            have rf0 := RRf.out.frozen 0
            have rf1 := RRf.out.frozen 1
            have rf2 := RRf.out.frozen 2
            go_wp2
            have Z9 : Row (World.setCell (World.setCell (World.setCell x8 ⟨(w.heap.size + 1 + 1), 0, none⟩ (.int .i64 po)) ⟨(w.heap.size + 1 + 1), 1, none⟩ (.int .i64 pa)) ⟨(w.heap.size + 1 + 1), 2, none⟩ (.int .i64 pb)) (w.heap.size + 1 + 1) 32 [.int .i64 po, .int .i64 pa, .int .i64 pb] := (Row.set (Row.set (Row.set RRf.out 0 (.int .i64 po)) 1 (.int .i64 pa)) 2 (.int .i64 pb))
            have B9 : Below w.heap.size w (World.setCell (World.setCell (World.setCell x8 ⟨(w.heap.size + 1 + 1), 0, none⟩ (.int .i64 po)) ⟨(w.heap.size + 1 + 1), 1, none⟩ (.int .i64 pa)) ⟨(w.heap.size + 1 + 1), 2, none⟩ (.int .i64 pb)) := (Below.setCell (Below.setCell (Below.setCell B_w.out (p := ⟨(w.heap.size + 1 + 1), 0, none⟩) (by show _ ≤ (w.heap.size + 1 + 1); omega) (.int .i64 po)) (p := ⟨(w.heap.size + 1 + 1), 1, none⟩) (by show _ ≤ (w.heap.size + 1 + 1); omega) (.int .i64 pa)) (p := ⟨(w.heap.size + 1 + 1), 2, none⟩) (by show _ ≤ (w.heap.size + 1 + 1); omega) (.int .i64 pb))
            have d0 := Z9.cell 0
            have d1 := Z9.cell 1
            have d2 := Z9.cell 2
            simp only [List.getElem?_cons_zero, List.getElem?_cons_succ] at d0 d1 d2
            clear Z9
            refine bodyPost_ret (v := .tuple #[.agg #[.int .i64 po, .int .i64 pa, .int .i64 pb], .int .i64 (pz)]) (by simp [results, Try.results66, go_sem, d0, d1, d2]) rfl ?_
            have HV := (show xorF n gs ⟨5, x, y⟩ = (⟨po, pa, pb⟩, pz) from by unfold xorF; simp [HP0.out (), HP1.out (), HP2.out (), HP3.out (), HP.out (), hxy])
            exact ⟨by rw [HV], B9⟩
        · skip
          have cR : Hid (Row x6 (w.heap.size) 25 [.int .i64 n, .slice GA gn gc, .slice OA on oc]) := (rowCells RC.out B_wa.out)
          have c0 := cR.out.cell 0
          have c1 := cR.out.cell 1
          have c2 := cR.out.cell 2
          have cl := cR.out.lt
          simp only [List.getElem?_cons_zero, List.getElem?_cons_succ] at c0 c1 c2
          clear cR
          have gR : Hid (Row x6 (w.heap.size + 1) 32 [.int .i64 5, .int .i64 x, .int .i64 y]) := (rowCells RG.out B_wa.out)
          have g0 := gR.out.cell 0
          have g1 := gR.out.cell 1
          have g2 := gR.out.cell 2
          have gl := gR.out.lt
          simp only [List.getElem?_cons_zero, List.getElem?_cons_succ] at g0 g1 g2
          clear gR
          have rR : Hid (Row x6 (w.heap.size + 1 + 1) 32 [.int .i64 0, .int .i64 0, .int .i64 0]) := (rowCells RR.out B_wa.out)
          have r0 := rR.out.cell 0
          have r1 := rR.out.cell 1
          have r2 := rR.out.cell 2
          have rl := rR.out.lt
          simp only [List.getElem?_cons_zero, List.getElem?_cons_succ] at r0 r1 r2
          clear rR
          have RRf : Hid (Row x6 (w.heap.size + 1 + 1) 32 [.int .i64 0, .int .i64 0, .int .i64 0]) := (rowCells RR.out B_wa.out)
          have rf0 := RRf.out.frozen 0
          have rf1 := RRf.out.frozen 1
          have rf2 := RRf.out.frozen 2
          go_wp2
          have Z9 : Row (World.setCell (World.setCell (World.setCell x6 ⟨(w.heap.size + 1 + 1), 0, none⟩ (.int .i64 1)) ⟨(w.heap.size + 1 + 1), 1, none⟩ (.int .i64 0)) ⟨(w.heap.size + 1 + 1), 2, none⟩ (.int .i64 0)) (w.heap.size + 1 + 1) 32 [.int .i64 1, .int .i64 0, .int .i64 0] := (Row.set (Row.set (Row.set RRf.out 0 (.int .i64 1)) 1 (.int .i64 0)) 2 (.int .i64 0))
          have B9 : Below w.heap.size w (World.setCell (World.setCell (World.setCell x6 ⟨(w.heap.size + 1 + 1), 0, none⟩ (.int .i64 1)) ⟨(w.heap.size + 1 + 1), 1, none⟩ (.int .i64 0)) ⟨(w.heap.size + 1 + 1), 2, none⟩ (.int .i64 0)) := (Below.setCell (Below.setCell (Below.setCell B_w.out (p := ⟨(w.heap.size + 1 + 1), 0, none⟩) (by show _ ≤ (w.heap.size + 1 + 1); omega) (.int .i64 1)) (p := ⟨(w.heap.size + 1 + 1), 1, none⟩) (by show _ ≤ (w.heap.size + 1 + 1); omega) (.int .i64 0)) (p := ⟨(w.heap.size + 1 + 1), 2, none⟩) (by show _ ≤ (w.heap.size + 1 + 1); omega) (.int .i64 0))
          have d0 := Z9.cell 0
          have d1 := Z9.cell 1
          have d2 := Z9.cell 2
          simp only [List.getElem?_cons_zero, List.getElem?_cons_succ] at d0 d1 d2
          clear Z9
          refine bodyPost_ret (v := .tuple #[.agg #[.int .i64 1, .int .i64 0, .int .i64 0], .int .i64 (-1)]) (by simp [results, Try.results66, go_sem, d0, d1, d2]) rfl ?_
          have HV := (show xorF n gs ⟨5, x, y⟩ = (⟨1, 0, 0⟩, -1) from by unfold xorF; simp [HP0.out (), HP1.out (), HP2.out (), hxy])
          exact ⟨by rw [HV], B9⟩
    · skip
      have cR : Hid (Row x5 (w.heap.size) 25 [.int .i64 n, .slice GA gn gc, .slice OA on oc]) := (rowCells RC.out B_wa.out)
      have c0 := cR.out.cell 0
      have c1 := cR.out.cell 1
      have c2 := cR.out.cell 2
      have cl := cR.out.lt
      simp only [List.getElem?_cons_zero, List.getElem?_cons_succ] at c0 c1 c2
      clear cR
      have gR : Hid (Row x5 (w.heap.size + 1) 32 [.int .i64 5, .int .i64 x, .int .i64 y]) := (rowCells RG.out B_wa.out)
      have g0 := gR.out.cell 0
      have g1 := gR.out.cell 1
      have g2 := gR.out.cell 2
      have gl := gR.out.lt
      simp only [List.getElem?_cons_zero, List.getElem?_cons_succ] at g0 g1 g2
      clear gR
      have rR : Hid (Row x5 (w.heap.size + 1 + 1) 32 [.int .i64 0, .int .i64 0, .int .i64 0]) := (rowCells RR.out B_wa.out)
      have r0 := rR.out.cell 0
      have r1 := rR.out.cell 1
      have r2 := rR.out.cell 2
      have rl := rR.out.lt
      simp only [List.getElem?_cons_zero, List.getElem?_cons_succ] at r0 r1 r2
      clear rR
      have RRf : Hid (Row x5 (w.heap.size + 1 + 1) 32 [.int .i64 0, .int .i64 0, .int .i64 0]) := (rowCells RR.out B_wa.out)
      have rf0 := RRf.out.frozen 0
      have rf1 := RRf.out.frozen 1
      have rf2 := RRf.out.frozen 2
      go_wp2
      have Z9 : Row (World.setCell (World.setCell (World.setCell x5 ⟨(w.heap.size + 1 + 1), 0, none⟩ (.int .i64 5)) ⟨(w.heap.size + 1 + 1), 1, none⟩ (.int .i64 x)) ⟨(w.heap.size + 1 + 1), 2, none⟩ (.int .i64 y)) (w.heap.size + 1 + 1) 32 [.int .i64 5, .int .i64 x, .int .i64 y] := (Row.set (Row.set (Row.set RRf.out 0 (.int .i64 5)) 1 (.int .i64 x)) 2 (.int .i64 y))
      have B9 : Below w.heap.size w (World.setCell (World.setCell (World.setCell x5 ⟨(w.heap.size + 1 + 1), 0, none⟩ (.int .i64 5)) ⟨(w.heap.size + 1 + 1), 1, none⟩ (.int .i64 x)) ⟨(w.heap.size + 1 + 1), 2, none⟩ (.int .i64 y)) := (Below.setCell (Below.setCell (Below.setCell B_w.out (p := ⟨(w.heap.size + 1 + 1), 0, none⟩) (by show _ ≤ (w.heap.size + 1 + 1); omega) (.int .i64 5)) (p := ⟨(w.heap.size + 1 + 1), 1, none⟩) (by show _ ≤ (w.heap.size + 1 + 1); omega) (.int .i64 x)) (p := ⟨(w.heap.size + 1 + 1), 2, none⟩) (by show _ ≤ (w.heap.size + 1 + 1); omega) (.int .i64 y))
      have d0 := Z9.cell 0
      have d1 := Z9.cell 1
      have d2 := Z9.cell 2
      simp only [List.getElem?_cons_zero, List.getElem?_cons_succ] at d0 d1 d2
      clear Z9
      refine bodyPost_ret (v := .tuple #[.agg #[.int .i64 5, .int .i64 x, .int .i64 y], .int .i64 (x)]) (by simp [results, Try.results66, go_sem, d0, d1, d2]) rfl ?_
      have HV := (show xorF n gs ⟨5, x, y⟩ = (⟨5, x, y⟩, x) from by unfold xorF; simp [HP0.out (), HP1.out ()])
      exact ⟨by rw [HV], B9⟩
  · skip
    have cR : Hid (Row x4 (w.heap.size) 25 [.int .i64 n, .slice GA gn gc, .slice OA on oc]) := (rowCells RC.out B_wa.out)
    have c0 := cR.out.cell 0
    have c1 := cR.out.cell 1
    have c2 := cR.out.cell 2
    have cl := cR.out.lt
    simp only [List.getElem?_cons_zero, List.getElem?_cons_succ] at c0 c1 c2
    clear cR
    have gR : Hid (Row x4 (w.heap.size + 1) 32 [.int .i64 5, .int .i64 x, .int .i64 y]) := (rowCells RG.out B_wa.out)
    have g0 := gR.out.cell 0
    have g1 := gR.out.cell 1
    have g2 := gR.out.cell 2
    have gl := gR.out.lt
    simp only [List.getElem?_cons_zero, List.getElem?_cons_succ] at g0 g1 g2
    clear gR
    have rR : Hid (Row x4 (w.heap.size + 1 + 1) 32 [.int .i64 0, .int .i64 0, .int .i64 0]) := (rowCells RR.out B_wa.out)
    have r0 := rR.out.cell 0
    have r1 := rR.out.cell 1
    have r2 := rR.out.cell 2
    have rl := rR.out.lt
    simp only [List.getElem?_cons_zero, List.getElem?_cons_succ] at r0 r1 r2
    clear rR
    have RRf : Hid (Row x4 (w.heap.size + 1 + 1) 32 [.int .i64 0, .int .i64 0, .int .i64 0]) := (rowCells RR.out B_wa.out)
    have rf0 := RRf.out.frozen 0
    have rf1 := RRf.out.frozen 1
    have rf2 := RRf.out.frozen 2
    go_wp2
    have Z9 : Row (World.setCell (World.setCell (World.setCell x4 ⟨(w.heap.size + 1 + 1), 0, none⟩ (.int .i64 5)) ⟨(w.heap.size + 1 + 1), 1, none⟩ (.int .i64 x)) ⟨(w.heap.size + 1 + 1), 2, none⟩ (.int .i64 y)) (w.heap.size + 1 + 1) 32 [.int .i64 5, .int .i64 x, .int .i64 y] := (Row.set (Row.set (Row.set RRf.out 0 (.int .i64 5)) 1 (.int .i64 x)) 2 (.int .i64 y))
    have B9 : Below w.heap.size w (World.setCell (World.setCell (World.setCell x4 ⟨(w.heap.size + 1 + 1), 0, none⟩ (.int .i64 5)) ⟨(w.heap.size + 1 + 1), 1, none⟩ (.int .i64 x)) ⟨(w.heap.size + 1 + 1), 2, none⟩ (.int .i64 y)) := (Below.setCell (Below.setCell (Below.setCell B_w.out (p := ⟨(w.heap.size + 1 + 1), 0, none⟩) (by show _ ≤ (w.heap.size + 1 + 1); omega) (.int .i64 5)) (p := ⟨(w.heap.size + 1 + 1), 1, none⟩) (by show _ ≤ (w.heap.size + 1 + 1); omega) (.int .i64 x)) (p := ⟨(w.heap.size + 1 + 1), 2, none⟩) (by show _ ≤ (w.heap.size + 1 + 1); omega) (.int .i64 y))
    have d0 := Z9.cell 0
    have d1 := Z9.cell 1
    have d2 := Z9.cell 2
    simp only [List.getElem?_cons_zero, List.getElem?_cons_succ] at d0 d1 d2
    clear Z9
    refine bodyPost_ret (v := .tuple #[.agg #[.int .i64 5, .int .i64 x, .int .i64 y], .int .i64 (y)]) (by simp [results, Try.results66, go_sem, d0, d1, d2]) rfl ?_
    have HV := (show xorF n gs ⟨5, x, y⟩ = (⟨5, x, y⟩, y) from by unfold xorF; simp [HP0.out ()])
    exact ⟨by rw [HV], B9⟩
set_option maxRecDepth 100000 in
set_option maxHeartbeats 8000000 in
theorem rAnd_any (n : Int) (gs : List Gt) (GA OA : Option Addr) (gn gc on oc : Nat) (x y : Int) (w : World) (hG : Rd w w.heap.size 3 GA gn (gatesCells gs)) (hn : 0 ≤ n ∧ n ≤ 1000) (hg : gn ≤ 20000) (hx : 0 ≤ x ∧ x < n + (gn : Int)) (hy : 0 ≤ y ∧ y < n + (gn : Int)) :
    Calls Try.prog 41 #[.agg #[.int .i64 n, .slice GA gn gc, .slice OA on oc], .agg #[.int .i64 3, .int .i64 x, .int .i64 y]] w (fun e w' => e = .returned (.tuple #[.agg #[.int .i64 (eitherF n gs ⟨3, x, y⟩ 0 1).1.op, .int .i64 (eitherF n gs ⟨3, x, y⟩ 0 1).1.a, .int .i64 (eitherF n gs ⟨3, x, y⟩ 0 1).1.b], .int .i64 (eitherF n gs ⟨3, x, y⟩ 0 1).2]) ∧ Below w.heap.size w w') := by
  have HG : Hid (Rd w w.heap.size 3 GA gn (gatesCells gs)) := hG
  have HBx : Hid (0 ≤ x ∧ x < n + (gn : Int)) := hx
  have HBy : Hid (0 ≤ y ∧ y < n + (gn : Int)) := hy
  clear hG hx hy
  obtain ⟨P0, hP0⟩ : ∃ q, isW n gs (x) 0 = q := ⟨_, rfl⟩
  have HP0 : Hid (∀ _ : Unit, isW n gs (x) 0 = P0) := fun _ => hP0
  clear hP0
  obtain ⟨P1, hP1⟩ : ∃ q, isW n gs (y) 0 = q := ⟨_, rfl⟩
  have HP1 : Hid (∀ _ : Unit, isW n gs (y) 0 = P1) := fun _ => hP1
  clear hP1
  obtain ⟨P2, hP2⟩ : ∃ q, isW n gs (x) 1 = q := ⟨_, rfl⟩
  have HP2 : Hid (∀ _ : Unit, isW n gs (x) 1 = P2) := fun _ => hP2
  clear hP2
  obtain ⟨P3, hP3⟩ : ∃ q, isW n gs (y) 1 = q := ⟨_, rfl⟩
  have HP3 : Hid (∀ _ : Unit, isW n gs (y) 1 = P3) := fun _ => hP3
  clear hP3
  obtain ⟨P4, hP4⟩ : ∃ q, oppW n gs x y = q := ⟨_, rfl⟩
  have HP4 : Hid (∀ _ : Unit, oppW n gs x y = P4) := fun _ => hP4
  clear hP4
  go_enter Try.func41, Try.ntmps41
  go_upto_region 1 with fail
  have RC : Hid (Row (World.alloc (World.alloc (World.alloc w (.cells #[.int .i64 n, .slice GA gn gc, .slice OA on oc] 25)) (.cells #[.int .i64 3, .int .i64 x, .int .i64 y] 32)) (.cells #[.int .i64 0, .int .i64 0, .int .i64 0] 32)) (w.heap.size) 25 [.int .i64 n, .slice GA gn gc, .slice OA on oc]) := by
    have h0 := Row.new w 25 [.int .i64 n, .slice GA gn gc, .slice OA on oc]
    try simp only [World.size_alloc] at h0
    exact ((h0.alloc _).alloc _)
  have RG : Hid (Row (World.alloc (World.alloc (World.alloc w (.cells #[.int .i64 n, .slice GA gn gc, .slice OA on oc] 25)) (.cells #[.int .i64 3, .int .i64 x, .int .i64 y] 32)) (.cells #[.int .i64 0, .int .i64 0, .int .i64 0] 32)) (w.heap.size + 1) 32 [.int .i64 3, .int .i64 x, .int .i64 y]) := by
    have h0 := Row.new (World.alloc w (.cells #[.int .i64 n, .slice GA gn gc, .slice OA on oc] 25)) 32 [.int .i64 3, .int .i64 x, .int .i64 y]
    try simp only [World.size_alloc] at h0
    exact (h0.alloc _)
  have RR : Hid (Row (World.alloc (World.alloc (World.alloc w (.cells #[.int .i64 n, .slice GA gn gc, .slice OA on oc] 25)) (.cells #[.int .i64 3, .int .i64 x, .int .i64 y] 32)) (.cells #[.int .i64 0, .int .i64 0, .int .i64 0] 32)) (w.heap.size + 1 + 1) 32 [.int .i64 0, .int .i64 0, .int .i64 0]) := by
    have h0 := Row.new (World.alloc (World.alloc w (.cells #[.int .i64 n, .slice GA gn gc, .slice OA on oc] 25)) (.cells #[.int .i64 3, .int .i64 x, .int .i64 y] 32)) 32 [.int .i64 0, .int .i64 0, .int .i64 0]
    try simp only [World.size_alloc] at h0
    exact h0
  have hgr9 : Below w.heap.size w (World.alloc (World.alloc (World.alloc w (.cells #[.int .i64 n, .slice GA gn gc, .slice OA on oc] 25)) (.cells #[.int .i64 3, .int .i64 x, .int .i64 y] 32)) (.cells #[.int .i64 0, .int .i64 0, .int .i64 0] 32)) := by go_grown
  have B_w : Hid (Below w.heap.size w (World.alloc (World.alloc (World.alloc w (.cells #[.int .i64 n, .slice GA gn gc, .slice OA on oc] 25)) (.cells #[.int .i64 3, .int .i64 x, .int .i64 y] 32)) (.cells #[.int .i64 0, .int .i64 0, .int .i64 0] 32))) := hgr9
  clear hgr9
  revert RC RG RR B_w
  generalize (World.alloc (World.alloc (World.alloc w (.cells #[.int .i64 n, .slice GA gn gc, .slice OA on oc] 25)) (.cells #[.int .i64 3, .int .i64 x, .int .i64 y] 32)) (.cells #[.int .i64 0, .int .i64 0, .int .i64 0] 32)) = wa
  intro RC RG RR B_w
  have hwa : w.heap.size + 1 + 1 < wa.heap.size := RR.out.lt
  have gR : Hid (Row wa (w.heap.size + 1) 32 [.int .i64 3, .int .i64 x, .int .i64 y]) := RG.out
  have g0 := gR.out.cell 0
  have g1 := gR.out.cell 1
  have g2 := gR.out.cell 2
  have gl := gR.out.lt
  simp only [List.getElem?_cons_zero, List.getElem?_cons_succ] at g0 g1 g2
  clear gR
  go_quiet (fail)
  have B_w : Hid (Below w.heap.size w (wa.drewN nq)) := below_drewN B_w.out nq
  have B_wa : Hid (Below wa.heap.size wa (wa.drewN nq)) := below_drewN (Below.refl _ _) nq
  clear g0 g1 g2 gl
  revert B_w B_wa
  generalize (wa.drewN nq) = wb
  intro B_w B_wa
  go_upto_region 3 with fail
  have RZ : Hid (Row (World.alloc (World.alloc wb (.cells #[.int .i64 0, .int .i64 0, .int .i64 0] 32)) (.cells #[.int .i64 1, .int .i64 0, .int .i64 0] 32)) (wb.heap.size) 32 [.int .i64 0, .int .i64 0, .int .i64 0]) := by
    have h0 := Row.new wb 32 [.int .i64 0, .int .i64 0, .int .i64 0]
    try simp only [World.size_alloc] at h0
    exact (h0.alloc _)
  have RO : Hid (Row (World.alloc (World.alloc wb (.cells #[.int .i64 0, .int .i64 0, .int .i64 0] 32)) (.cells #[.int .i64 1, .int .i64 0, .int .i64 0] 32)) (wb.heap.size + 1) 32 [.int .i64 1, .int .i64 0, .int .i64 0]) := by
    have h0 := Row.new (World.alloc wb (.cells #[.int .i64 0, .int .i64 0, .int .i64 0] 32)) 32 [.int .i64 1, .int .i64 0, .int .i64 0]
    try simp only [World.size_alloc] at h0
    exact h0
  have hgr9 : Below wb.heap.size wb (World.alloc (World.alloc wb (.cells #[.int .i64 0, .int .i64 0, .int .i64 0] 32)) (.cells #[.int .i64 1, .int .i64 0, .int .i64 0] 32)) := by go_grown
  have B_w : Hid (Below w.heap.size w (World.alloc (World.alloc wb (.cells #[.int .i64 0, .int .i64 0, .int .i64 0] 32)) (.cells #[.int .i64 1, .int .i64 0, .int .i64 0] 32))) := below_on2 B_w.out hgr9
  have B_wa : Hid (Below wa.heap.size wa (World.alloc (World.alloc wb (.cells #[.int .i64 0, .int .i64 0, .int .i64 0] 32)) (.cells #[.int .i64 1, .int .i64 0, .int .i64 0] 32))) := below_on2 B_wa.out hgr9
  have B_wb : Hid (Below wb.heap.size wb (World.alloc (World.alloc wb (.cells #[.int .i64 0, .int .i64 0, .int .i64 0] 32)) (.cells #[.int .i64 1, .int .i64 0, .int .i64 0] 32))) := hgr9
  clear hgr9
  revert RZ RO B_w B_wa B_wb
  generalize (World.alloc (World.alloc wb (.cells #[.int .i64 0, .int .i64 0, .int .i64 0] 32)) (.cells #[.int .i64 1, .int .i64 0, .int .i64 0] 32)) = wc
  intro RZ RO B_w B_wa B_wb
  have cR : Hid (Row wc (w.heap.size) 25 [.int .i64 n, .slice GA gn gc, .slice OA on oc]) := (rowCells RC.out B_wa.out)
  have c0 := cR.out.cell 0
  have c1 := cR.out.cell 1
  have c2 := cR.out.cell 2
  have cl := cR.out.lt
  simp only [List.getElem?_cons_zero, List.getElem?_cons_succ] at c0 c1 c2
  clear cR
  have gR : Hid (Row wc (w.heap.size + 1) 32 [.int .i64 3, .int .i64 x, .int .i64 y]) := (rowCells RG.out B_wa.out)
  have g0 := gR.out.cell 0
  have g1 := gR.out.cell 1
  have g2 := gR.out.cell 2
  have gl := gR.out.lt
  simp only [List.getElem?_cons_zero, List.getElem?_cons_succ] at g0 g1 g2
  clear gR
  have zR : Hid (Row wc (wb.heap.size) 32 [.int .i64 0, .int .i64 0, .int .i64 0]) := RZ.out
  have z0 := zR.out.cell 0
  have z1 := zR.out.cell 1
  have z2 := zR.out.cell 2
  have zl := zR.out.lt
  simp only [List.getElem?_cons_zero, List.getElem?_cons_succ] at z0 z1 z2
  clear zR
  have oR : Hid (Row wc (wb.heap.size + 1) 32 [.int .i64 1, .int .i64 0, .int .i64 0]) := RO.out
  have o0 := oR.out.cell 0
  have o1 := oR.out.cell 1
  have o2 := oR.out.cell 2
  have ol := oR.out.lt
  simp only [List.getElem?_cons_zero, List.getElem?_cons_succ] at o0 o1 o2
  clear oR
  go_wp2_with fail
  have HC := rIs_any n gs GA OA gn gc on oc (x) 0 wc ((HG.out.up B_w.out)) hn hg HBx.out.2 (by have := HBx.out.1; omega)
  rw [HP0.out ()] at HC
  refine HC.mono ?_
  clear HC
  rintro e x11 ⟨rfl, hb⟩
  have B_w : Hid (Below w.heap.size w x11) := below_on2 B_w.out hb
  have B_wa : Hid (Below wa.heap.size wa x11) := below_on2 B_wa.out hb
  have B_wb : Hid (Below wb.heap.size wb x11) := below_on2 B_wb.out hb
  have B_wc : Hid (Below wc.heap.size wc x11) := hb
  clear c0 c1 c2 cl g0 g1 g2 gl z0 z1 z2 zl o0 o1 o2 ol
  clear hb
  cases P0
  · skip
    have cR : Hid (Row x11 (w.heap.size) 25 [.int .i64 n, .slice GA gn gc, .slice OA on oc]) := (rowCells RC.out B_wa.out)
    have c0 := cR.out.cell 0
    have c1 := cR.out.cell 1
    have c2 := cR.out.cell 2
    have cl := cR.out.lt
    simp only [List.getElem?_cons_zero, List.getElem?_cons_succ] at c0 c1 c2
    clear cR
    have gR : Hid (Row x11 (w.heap.size + 1) 32 [.int .i64 3, .int .i64 x, .int .i64 y]) := (rowCells RG.out B_wa.out)
    have g0 := gR.out.cell 0
    have g1 := gR.out.cell 1
    have g2 := gR.out.cell 2
    have gl := gR.out.lt
    simp only [List.getElem?_cons_zero, List.getElem?_cons_succ] at g0 g1 g2
    clear gR
    have zR : Hid (Row x11 (wb.heap.size) 32 [.int .i64 0, .int .i64 0, .int .i64 0]) := (rowCells RZ.out B_wc.out)
    have z0 := zR.out.cell 0
    have z1 := zR.out.cell 1
    have z2 := zR.out.cell 2
    have zl := zR.out.lt
    simp only [List.getElem?_cons_zero, List.getElem?_cons_succ] at z0 z1 z2
    clear zR
    have oR : Hid (Row x11 (wb.heap.size + 1) 32 [.int .i64 1, .int .i64 0, .int .i64 0]) := (rowCells RO.out B_wc.out)
    have o0 := oR.out.cell 0
    have o1 := oR.out.cell 1
    have o2 := oR.out.cell 2
    have ol := oR.out.lt
    simp only [List.getElem?_cons_zero, List.getElem?_cons_succ] at o0 o1 o2
    clear oR
    go_wp2_with fail
    have HC := rIs_any n gs GA OA gn gc on oc (y) 0 x11 ((HG.out.up B_w.out)) hn hg HBy.out.2 (by have := HBy.out.1; omega)
    rw [HP1.out ()] at HC
    refine HC.mono ?_
    clear HC
    rintro e x12 ⟨rfl, hb⟩
    have B_w : Hid (Below w.heap.size w x12) := below_on2 B_w.out hb
    have B_wa : Hid (Below wa.heap.size wa x12) := below_on2 B_wa.out hb
    have B_wb : Hid (Below wb.heap.size wb x12) := below_on2 B_wb.out hb
    have B_wc : Hid (Below wc.heap.size wc x12) := below_on2 B_wc.out hb
    have B_x11 : Hid (Below x11.heap.size x11 x12) := hb
    clear c0 c1 c2 cl g0 g1 g2 gl z0 z1 z2 zl o0 o1 o2 ol
    clear hb
    cases P1
    · skip
      have cR : Hid (Row x12 (w.heap.size) 25 [.int .i64 n, .slice GA gn gc, .slice OA on oc]) := (rowCells RC.out B_wa.out)
      have c0 := cR.out.cell 0
      have c1 := cR.out.cell 1
      have c2 := cR.out.cell 2
      have cl := cR.out.lt
      simp only [List.getElem?_cons_zero, List.getElem?_cons_succ] at c0 c1 c2
      clear cR
      have gR : Hid (Row x12 (w.heap.size + 1) 32 [.int .i64 3, .int .i64 x, .int .i64 y]) := (rowCells RG.out B_wa.out)
      have g0 := gR.out.cell 0
      have g1 := gR.out.cell 1
      have g2 := gR.out.cell 2
      have gl := gR.out.lt
      simp only [List.getElem?_cons_zero, List.getElem?_cons_succ] at g0 g1 g2
      clear gR
      have zR : Hid (Row x12 (wb.heap.size) 32 [.int .i64 0, .int .i64 0, .int .i64 0]) := (rowCells RZ.out B_wc.out)
      have z0 := zR.out.cell 0
      have z1 := zR.out.cell 1
      have z2 := zR.out.cell 2
      have zl := zR.out.lt
      simp only [List.getElem?_cons_zero, List.getElem?_cons_succ] at z0 z1 z2
      clear zR
      have oR : Hid (Row x12 (wb.heap.size + 1) 32 [.int .i64 1, .int .i64 0, .int .i64 0]) := (rowCells RO.out B_wc.out)
      have o0 := oR.out.cell 0
      have o1 := oR.out.cell 1
      have o2 := oR.out.cell 2
      have ol := oR.out.lt
      simp only [List.getElem?_cons_zero, List.getElem?_cons_succ] at o0 o1 o2
      clear oR
      go_wp2_with fail
      have HC := rIs_any n gs GA OA gn gc on oc (x) 1 x12 ((HG.out.up B_w.out)) hn hg HBx.out.2 (by have := HBx.out.1; omega)
      rw [HP2.out ()] at HC
      refine HC.mono ?_
      clear HC
      rintro e x13 ⟨rfl, hb⟩
      have B_w : Hid (Below w.heap.size w x13) := below_on2 B_w.out hb
      have B_wa : Hid (Below wa.heap.size wa x13) := below_on2 B_wa.out hb
      have B_wb : Hid (Below wb.heap.size wb x13) := below_on2 B_wb.out hb
      have B_wc : Hid (Below wc.heap.size wc x13) := below_on2 B_wc.out hb
      have B_x11 : Hid (Below x11.heap.size x11 x13) := below_on2 B_x11.out hb
      have B_x12 : Hid (Below x12.heap.size x12 x13) := hb
      clear c0 c1 c2 cl g0 g1 g2 gl z0 z1 z2 zl o0 o1 o2 ol
      clear hb
      cases P2
      · skip
        have cR : Hid (Row x13 (w.heap.size) 25 [.int .i64 n, .slice GA gn gc, .slice OA on oc]) := (rowCells RC.out B_wa.out)
        have c0 := cR.out.cell 0
        have c1 := cR.out.cell 1
        have c2 := cR.out.cell 2
        have cl := cR.out.lt
        simp only [List.getElem?_cons_zero, List.getElem?_cons_succ] at c0 c1 c2
        clear cR
        have gR : Hid (Row x13 (w.heap.size + 1) 32 [.int .i64 3, .int .i64 x, .int .i64 y]) := (rowCells RG.out B_wa.out)
        have g0 := gR.out.cell 0
        have g1 := gR.out.cell 1
        have g2 := gR.out.cell 2
        have gl := gR.out.lt
        simp only [List.getElem?_cons_zero, List.getElem?_cons_succ] at g0 g1 g2
        clear gR
        have zR : Hid (Row x13 (wb.heap.size) 32 [.int .i64 0, .int .i64 0, .int .i64 0]) := (rowCells RZ.out B_wc.out)
        have z0 := zR.out.cell 0
        have z1 := zR.out.cell 1
        have z2 := zR.out.cell 2
        have zl := zR.out.lt
        simp only [List.getElem?_cons_zero, List.getElem?_cons_succ] at z0 z1 z2
        clear zR
        have oR : Hid (Row x13 (wb.heap.size + 1) 32 [.int .i64 1, .int .i64 0, .int .i64 0]) := (rowCells RO.out B_wc.out)
        have o0 := oR.out.cell 0
        have o1 := oR.out.cell 1
        have o2 := oR.out.cell 2
        have ol := oR.out.lt
        simp only [List.getElem?_cons_zero, List.getElem?_cons_succ] at o0 o1 o2
        clear oR
        go_wp2_with fail
        have HC := rIs_any n gs GA OA gn gc on oc (y) 1 x13 ((HG.out.up B_w.out)) hn hg HBy.out.2 (by have := HBy.out.1; omega)
        rw [HP3.out ()] at HC
        refine HC.mono ?_
        clear HC
        rintro e x14 ⟨rfl, hb⟩
        have B_w : Hid (Below w.heap.size w x14) := below_on2 B_w.out hb
        have B_wa : Hid (Below wa.heap.size wa x14) := below_on2 B_wa.out hb
        have B_wb : Hid (Below wb.heap.size wb x14) := below_on2 B_wb.out hb
        have B_wc : Hid (Below wc.heap.size wc x14) := below_on2 B_wc.out hb
        have B_x11 : Hid (Below x11.heap.size x11 x14) := below_on2 B_x11.out hb
        have B_x12 : Hid (Below x12.heap.size x12 x14) := below_on2 B_x12.out hb
        have B_x13 : Hid (Below x13.heap.size x13 x14) := hb
        clear c0 c1 c2 cl g0 g1 g2 gl z0 z1 z2 zl o0 o1 o2 ol
        clear hb
        cases P3
        · skip
          by_cases hxy : x = y
          · subst hxy
            have cR : Hid (Row x14 (w.heap.size) 25 [.int .i64 n, .slice GA gn gc, .slice OA on oc]) := (rowCells RC.out B_wa.out)
            have c0 := cR.out.cell 0
            have c1 := cR.out.cell 1
            have c2 := cR.out.cell 2
            have cl := cR.out.lt
            simp only [List.getElem?_cons_zero, List.getElem?_cons_succ] at c0 c1 c2
            clear cR
            have gR : Hid (Row x14 (w.heap.size + 1) 32 [.int .i64 3, .int .i64 x, .int .i64 x]) := (rowCells RG.out B_wa.out)
            have g0 := gR.out.cell 0
            have g1 := gR.out.cell 1
            have g2 := gR.out.cell 2
            have gl := gR.out.lt
            simp only [List.getElem?_cons_zero, List.getElem?_cons_succ] at g0 g1 g2
            clear gR
            have zR : Hid (Row x14 (wb.heap.size) 32 [.int .i64 0, .int .i64 0, .int .i64 0]) := (rowCells RZ.out B_wc.out)
            have z0 := zR.out.cell 0
            have z1 := zR.out.cell 1
            have z2 := zR.out.cell 2
            have zl := zR.out.lt
            simp only [List.getElem?_cons_zero, List.getElem?_cons_succ] at z0 z1 z2
            clear zR
            have oR : Hid (Row x14 (wb.heap.size + 1) 32 [.int .i64 1, .int .i64 0, .int .i64 0]) := (rowCells RO.out B_wc.out)
            have o0 := oR.out.cell 0
            have o1 := oR.out.cell 1
            have o2 := oR.out.cell 2
            have ol := oR.out.lt
            simp only [List.getElem?_cons_zero, List.getElem?_cons_succ] at o0 o1 o2
            clear oR
            have rR : Hid (Row x14 (w.heap.size + 1 + 1) 32 [.int .i64 0, .int .i64 0, .int .i64 0]) := (rowCells RR.out B_wa.out)
            have r0 := rR.out.cell 0
            have r1 := rR.out.cell 1
            have r2 := rR.out.cell 2
            have rl := rR.out.lt
            simp only [List.getElem?_cons_zero, List.getElem?_cons_succ] at r0 r1 r2
            clear rR
            have RRf : Hid (Row x14 (w.heap.size + 1 + 1) 32 [.int .i64 0, .int .i64 0, .int .i64 0]) := (rowCells RR.out B_wa.out)
            have rf0 := RRf.out.frozen 0
            have rf1 := RRf.out.frozen 1
            have rf2 := RRf.out.frozen 2
            go_wp2
            have Z9 : Row (World.setCell (World.setCell (World.setCell x14 ⟨(w.heap.size + 1 + 1), 0, none⟩ (.int .i64 3)) ⟨(w.heap.size + 1 + 1), 1, none⟩ (.int .i64 x)) ⟨(w.heap.size + 1 + 1), 2, none⟩ (.int .i64 x)) (w.heap.size + 1 + 1) 32 [.int .i64 3, .int .i64 x, .int .i64 x] := (Row.set (Row.set (Row.set RRf.out 0 (.int .i64 3)) 1 (.int .i64 x)) 2 (.int .i64 x))
            have B9 : Below w.heap.size w (World.setCell (World.setCell (World.setCell x14 ⟨(w.heap.size + 1 + 1), 0, none⟩ (.int .i64 3)) ⟨(w.heap.size + 1 + 1), 1, none⟩ (.int .i64 x)) ⟨(w.heap.size + 1 + 1), 2, none⟩ (.int .i64 x)) := (Below.setCell (Below.setCell (Below.setCell B_w.out (p := ⟨(w.heap.size + 1 + 1), 0, none⟩) (by show _ ≤ (w.heap.size + 1 + 1); omega) (.int .i64 3)) (p := ⟨(w.heap.size + 1 + 1), 1, none⟩) (by show _ ≤ (w.heap.size + 1 + 1); omega) (.int .i64 x)) (p := ⟨(w.heap.size + 1 + 1), 2, none⟩) (by show _ ≤ (w.heap.size + 1 + 1); omega) (.int .i64 x))
            have d0 := Z9.cell 0
            have d1 := Z9.cell 1
            have d2 := Z9.cell 2
            simp only [List.getElem?_cons_zero, List.getElem?_cons_succ] at d0 d1 d2
            clear Z9
            refine bodyPost_ret (v := .tuple #[.agg #[.int .i64 3, .int .i64 x, .int .i64 x], .int .i64 (x)]) (by simp [results, Try.results41, go_sem, d0, d1, d2]) rfl ?_
            have HV := (show eitherF n gs ⟨3, x, x⟩ 0 1 = (⟨3, x, x⟩, x) from by unfold eitherF; simp [HP0.out (), HP1.out (), HP2.out (), HP3.out ()])
            exact ⟨by rw [HV], B9⟩
          · have he1 : (x == y) = false := by simpa using hxy
            have he2 : decide (x = y) = false := decide_eq_false hxy
            have cR : Hid (Row x14 (w.heap.size) 25 [.int .i64 n, .slice GA gn gc, .slice OA on oc]) := (rowCells RC.out B_wa.out)
            have c0 := cR.out.cell 0
            have c1 := cR.out.cell 1
            have c2 := cR.out.cell 2
            have cl := cR.out.lt
            simp only [List.getElem?_cons_zero, List.getElem?_cons_succ] at c0 c1 c2
            clear cR
            have gR : Hid (Row x14 (w.heap.size + 1) 32 [.int .i64 3, .int .i64 x, .int .i64 y]) := (rowCells RG.out B_wa.out)
            have g0 := gR.out.cell 0
            have g1 := gR.out.cell 1
            have g2 := gR.out.cell 2
            have gl := gR.out.lt
            simp only [List.getElem?_cons_zero, List.getElem?_cons_succ] at g0 g1 g2
            clear gR
            have zR : Hid (Row x14 (wb.heap.size) 32 [.int .i64 0, .int .i64 0, .int .i64 0]) := (rowCells RZ.out B_wc.out)
            have z0 := zR.out.cell 0
            have z1 := zR.out.cell 1
            have z2 := zR.out.cell 2
            have zl := zR.out.lt
            simp only [List.getElem?_cons_zero, List.getElem?_cons_succ] at z0 z1 z2
            clear zR
            have oR : Hid (Row x14 (wb.heap.size + 1) 32 [.int .i64 1, .int .i64 0, .int .i64 0]) := (rowCells RO.out B_wc.out)
            have o0 := oR.out.cell 0
            have o1 := oR.out.cell 1
            have o2 := oR.out.cell 2
            have ol := oR.out.lt
            simp only [List.getElem?_cons_zero, List.getElem?_cons_succ] at o0 o1 o2
            clear oR
            go_wp2_with fail
            have HC := rOpp_any n gs GA OA gn gc on oc x y x14 ((HG.out.up B_w.out)) hn hg HBx.out.2 (by have := HBx.out.1; omega) HBy.out.2 (by have := HBy.out.1; omega)
            rw [HP4.out ()] at HC
            refine HC.mono ?_
            clear HC
            rintro e x15 ⟨rfl, hb⟩
            have B_w : Hid (Below w.heap.size w x15) := below_on2 B_w.out hb
            have B_wa : Hid (Below wa.heap.size wa x15) := below_on2 B_wa.out hb
            have B_wb : Hid (Below wb.heap.size wb x15) := below_on2 B_wb.out hb
            have B_wc : Hid (Below wc.heap.size wc x15) := below_on2 B_wc.out hb
            have B_x11 : Hid (Below x11.heap.size x11 x15) := below_on2 B_x11.out hb
            have B_x12 : Hid (Below x12.heap.size x12 x15) := below_on2 B_x12.out hb
            have B_x13 : Hid (Below x13.heap.size x13 x15) := below_on2 B_x13.out hb
            have B_x14 : Hid (Below x14.heap.size x14 x15) := hb
            clear c0 c1 c2 cl g0 g1 g2 gl z0 z1 z2 zl o0 o1 o2 ol
            clear hb
            cases P4
            · skip
              have cR : Hid (Row x15 (w.heap.size) 25 [.int .i64 n, .slice GA gn gc, .slice OA on oc]) := (rowCells RC.out B_wa.out)
              have c0 := cR.out.cell 0
              have c1 := cR.out.cell 1
              have c2 := cR.out.cell 2
              have cl := cR.out.lt
              simp only [List.getElem?_cons_zero, List.getElem?_cons_succ] at c0 c1 c2
              clear cR
              have gR : Hid (Row x15 (w.heap.size + 1) 32 [.int .i64 3, .int .i64 x, .int .i64 y]) := (rowCells RG.out B_wa.out)
              have g0 := gR.out.cell 0
              have g1 := gR.out.cell 1
              have g2 := gR.out.cell 2
              have gl := gR.out.lt
              simp only [List.getElem?_cons_zero, List.getElem?_cons_succ] at g0 g1 g2
              clear gR
              have zR : Hid (Row x15 (wb.heap.size) 32 [.int .i64 0, .int .i64 0, .int .i64 0]) := (rowCells RZ.out B_wc.out)
              have z0 := zR.out.cell 0
              have z1 := zR.out.cell 1
              have z2 := zR.out.cell 2
              have zl := zR.out.lt
              simp only [List.getElem?_cons_zero, List.getElem?_cons_succ] at z0 z1 z2
              clear zR
              have oR : Hid (Row x15 (wb.heap.size + 1) 32 [.int .i64 1, .int .i64 0, .int .i64 0]) := (rowCells RO.out B_wc.out)
              have o0 := oR.out.cell 0
              have o1 := oR.out.cell 1
              have o2 := oR.out.cell 2
              have ol := oR.out.lt
              simp only [List.getElem?_cons_zero, List.getElem?_cons_succ] at o0 o1 o2
              clear oR
              have rR : Hid (Row x15 (w.heap.size + 1 + 1) 32 [.int .i64 0, .int .i64 0, .int .i64 0]) := (rowCells RR.out B_wa.out)
              have r0 := rR.out.cell 0
              have r1 := rR.out.cell 1
              have r2 := rR.out.cell 2
              have rl := rR.out.lt
              simp only [List.getElem?_cons_zero, List.getElem?_cons_succ] at r0 r1 r2
              clear rR
              have RRf : Hid (Row x15 (w.heap.size + 1 + 1) 32 [.int .i64 0, .int .i64 0, .int .i64 0]) := (rowCells RR.out B_wa.out)
              have rf0 := RRf.out.frozen 0
              have rf1 := RRf.out.frozen 1
              have rf2 := RRf.out.frozen 2
              go_wp2
              have Z9 : Row (World.setCell (World.setCell (World.setCell x15 ⟨(w.heap.size + 1 + 1), 0, none⟩ (.int .i64 3)) ⟨(w.heap.size + 1 + 1), 1, none⟩ (.int .i64 x)) ⟨(w.heap.size + 1 + 1), 2, none⟩ (.int .i64 y)) (w.heap.size + 1 + 1) 32 [.int .i64 3, .int .i64 x, .int .i64 y] := (Row.set (Row.set (Row.set RRf.out 0 (.int .i64 3)) 1 (.int .i64 x)) 2 (.int .i64 y))
              have B9 : Below w.heap.size w (World.setCell (World.setCell (World.setCell x15 ⟨(w.heap.size + 1 + 1), 0, none⟩ (.int .i64 3)) ⟨(w.heap.size + 1 + 1), 1, none⟩ (.int .i64 x)) ⟨(w.heap.size + 1 + 1), 2, none⟩ (.int .i64 y)) := (Below.setCell (Below.setCell (Below.setCell B_w.out (p := ⟨(w.heap.size + 1 + 1), 0, none⟩) (by show _ ≤ (w.heap.size + 1 + 1); omega) (.int .i64 3)) (p := ⟨(w.heap.size + 1 + 1), 1, none⟩) (by show _ ≤ (w.heap.size + 1 + 1); omega) (.int .i64 x)) (p := ⟨(w.heap.size + 1 + 1), 2, none⟩) (by show _ ≤ (w.heap.size + 1 + 1); omega) (.int .i64 y))
              have d0 := Z9.cell 0
              have d1 := Z9.cell 1
              have d2 := Z9.cell 2
              simp only [List.getElem?_cons_zero, List.getElem?_cons_succ] at d0 d1 d2
              clear Z9
              refine bodyPost_ret (v := .tuple #[.agg #[.int .i64 3, .int .i64 x, .int .i64 y], .int .i64 (-1)]) (by simp [results, Try.results41, go_sem, d0, d1, d2]) rfl ?_
              have HV := (show eitherF n gs ⟨3, x, y⟩ 0 1 = (⟨3, x, y⟩, -1) from by unfold eitherF; simp [HP0.out (), HP1.out (), HP2.out (), HP3.out (), HP4.out (), hxy])
              exact ⟨by rw [HV], B9⟩
            · skip
              have cR : Hid (Row x15 (w.heap.size) 25 [.int .i64 n, .slice GA gn gc, .slice OA on oc]) := (rowCells RC.out B_wa.out)
              have c0 := cR.out.cell 0
              have c1 := cR.out.cell 1
              have c2 := cR.out.cell 2
              have cl := cR.out.lt
              simp only [List.getElem?_cons_zero, List.getElem?_cons_succ] at c0 c1 c2
              clear cR
              have gR : Hid (Row x15 (w.heap.size + 1) 32 [.int .i64 3, .int .i64 x, .int .i64 y]) := (rowCells RG.out B_wa.out)
              have g0 := gR.out.cell 0
              have g1 := gR.out.cell 1
              have g2 := gR.out.cell 2
              have gl := gR.out.lt
              simp only [List.getElem?_cons_zero, List.getElem?_cons_succ] at g0 g1 g2
              clear gR
              have zR : Hid (Row x15 (wb.heap.size) 32 [.int .i64 0, .int .i64 0, .int .i64 0]) := (rowCells RZ.out B_wc.out)
              have z0 := zR.out.cell 0
              have z1 := zR.out.cell 1
              have z2 := zR.out.cell 2
              have zl := zR.out.lt
              simp only [List.getElem?_cons_zero, List.getElem?_cons_succ] at z0 z1 z2
              clear zR
              have oR : Hid (Row x15 (wb.heap.size + 1) 32 [.int .i64 1, .int .i64 0, .int .i64 0]) := (rowCells RO.out B_wc.out)
              have o0 := oR.out.cell 0
              have o1 := oR.out.cell 1
              have o2 := oR.out.cell 2
              have ol := oR.out.lt
              simp only [List.getElem?_cons_zero, List.getElem?_cons_succ] at o0 o1 o2
              clear oR
              have rR : Hid (Row x15 (w.heap.size + 1 + 1) 32 [.int .i64 0, .int .i64 0, .int .i64 0]) := (rowCells RR.out B_wa.out)
              have r0 := rR.out.cell 0
              have r1 := rR.out.cell 1
              have r2 := rR.out.cell 2
              have rl := rR.out.lt
              simp only [List.getElem?_cons_zero, List.getElem?_cons_succ] at r0 r1 r2
              clear rR
              have RRf : Hid (Row x15 (w.heap.size + 1 + 1) 32 [.int .i64 0, .int .i64 0, .int .i64 0]) := (rowCells RR.out B_wa.out)
              have rf0 := RRf.out.frozen 0
              have rf1 := RRf.out.frozen 1
              have rf2 := RRf.out.frozen 2
              go_wp2
              have Z9 : Row (World.setCell (World.setCell (World.setCell x15 ⟨(w.heap.size + 1 + 1), 0, none⟩ (.int .i64 0)) ⟨(w.heap.size + 1 + 1), 1, none⟩ (.int .i64 0)) ⟨(w.heap.size + 1 + 1), 2, none⟩ (.int .i64 0)) (w.heap.size + 1 + 1) 32 [.int .i64 0, .int .i64 0, .int .i64 0] := (Row.set (Row.set (Row.set RRf.out 0 (.int .i64 0)) 1 (.int .i64 0)) 2 (.int .i64 0))
              have B9 : Below w.heap.size w (World.setCell (World.setCell (World.setCell x15 ⟨(w.heap.size + 1 + 1), 0, none⟩ (.int .i64 0)) ⟨(w.heap.size + 1 + 1), 1, none⟩ (.int .i64 0)) ⟨(w.heap.size + 1 + 1), 2, none⟩ (.int .i64 0)) := (Below.setCell (Below.setCell (Below.setCell B_w.out (p := ⟨(w.heap.size + 1 + 1), 0, none⟩) (by show _ ≤ (w.heap.size + 1 + 1); omega) (.int .i64 0)) (p := ⟨(w.heap.size + 1 + 1), 1, none⟩) (by show _ ≤ (w.heap.size + 1 + 1); omega) (.int .i64 0)) (p := ⟨(w.heap.size + 1 + 1), 2, none⟩) (by show _ ≤ (w.heap.size + 1 + 1); omega) (.int .i64 0))
              have d0 := Z9.cell 0
              have d1 := Z9.cell 1
              have d2 := Z9.cell 2
              simp only [List.getElem?_cons_zero, List.getElem?_cons_succ] at d0 d1 d2
              clear Z9
              refine bodyPost_ret (v := .tuple #[.agg #[.int .i64 0, .int .i64 0, .int .i64 0], .int .i64 (-1)]) (by simp [results, Try.results41, go_sem, d0, d1, d2]) rfl ?_
              have HV := (show eitherF n gs ⟨3, x, y⟩ 0 1 = (⟨0, 0, 0⟩, -1) from by unfold eitherF; simp [HP0.out (), HP1.out (), HP2.out (), HP3.out (), HP4.out (), hxy])
              exact ⟨by rw [HV], B9⟩
        · skip
          have cR : Hid (Row x14 (w.heap.size) 25 [.int .i64 n, .slice GA gn gc, .slice OA on oc]) := (rowCells RC.out B_wa.out)
          have c0 := cR.out.cell 0
          have c1 := cR.out.cell 1
          have c2 := cR.out.cell 2
          have cl := cR.out.lt
          simp only [List.getElem?_cons_zero, List.getElem?_cons_succ] at c0 c1 c2
          clear cR
          have gR : Hid (Row x14 (w.heap.size + 1) 32 [.int .i64 3, .int .i64 x, .int .i64 y]) := (rowCells RG.out B_wa.out)
          have g0 := gR.out.cell 0
          have g1 := gR.out.cell 1
          have g2 := gR.out.cell 2
          have gl := gR.out.lt
          simp only [List.getElem?_cons_zero, List.getElem?_cons_succ] at g0 g1 g2
          clear gR
          have zR : Hid (Row x14 (wb.heap.size) 32 [.int .i64 0, .int .i64 0, .int .i64 0]) := (rowCells RZ.out B_wc.out)
          have z0 := zR.out.cell 0
          have z1 := zR.out.cell 1
          have z2 := zR.out.cell 2
          have zl := zR.out.lt
          simp only [List.getElem?_cons_zero, List.getElem?_cons_succ] at z0 z1 z2
          clear zR
          have oR : Hid (Row x14 (wb.heap.size + 1) 32 [.int .i64 1, .int .i64 0, .int .i64 0]) := (rowCells RO.out B_wc.out)
          have o0 := oR.out.cell 0
          have o1 := oR.out.cell 1
          have o2 := oR.out.cell 2
          have ol := oR.out.lt
          simp only [List.getElem?_cons_zero, List.getElem?_cons_succ] at o0 o1 o2
          clear oR
          have rR : Hid (Row x14 (w.heap.size + 1 + 1) 32 [.int .i64 0, .int .i64 0, .int .i64 0]) := (rowCells RR.out B_wa.out)
          have r0 := rR.out.cell 0
          have r1 := rR.out.cell 1
          have r2 := rR.out.cell 2
          have rl := rR.out.lt
          simp only [List.getElem?_cons_zero, List.getElem?_cons_succ] at r0 r1 r2
          clear rR
          have RRf : Hid (Row x14 (w.heap.size + 1 + 1) 32 [.int .i64 0, .int .i64 0, .int .i64 0]) := (rowCells RR.out B_wa.out)
          have rf0 := RRf.out.frozen 0
          have rf1 := RRf.out.frozen 1
          have rf2 := RRf.out.frozen 2
          go_wp2
          have Z9 : Row (World.setCell (World.setCell (World.setCell x14 ⟨(w.heap.size + 1 + 1), 0, none⟩ (.int .i64 3)) ⟨(w.heap.size + 1 + 1), 1, none⟩ (.int .i64 x)) ⟨(w.heap.size + 1 + 1), 2, none⟩ (.int .i64 y)) (w.heap.size + 1 + 1) 32 [.int .i64 3, .int .i64 x, .int .i64 y] := (Row.set (Row.set (Row.set RRf.out 0 (.int .i64 3)) 1 (.int .i64 x)) 2 (.int .i64 y))
          have B9 : Below w.heap.size w (World.setCell (World.setCell (World.setCell x14 ⟨(w.heap.size + 1 + 1), 0, none⟩ (.int .i64 3)) ⟨(w.heap.size + 1 + 1), 1, none⟩ (.int .i64 x)) ⟨(w.heap.size + 1 + 1), 2, none⟩ (.int .i64 y)) := (Below.setCell (Below.setCell (Below.setCell B_w.out (p := ⟨(w.heap.size + 1 + 1), 0, none⟩) (by show _ ≤ (w.heap.size + 1 + 1); omega) (.int .i64 3)) (p := ⟨(w.heap.size + 1 + 1), 1, none⟩) (by show _ ≤ (w.heap.size + 1 + 1); omega) (.int .i64 x)) (p := ⟨(w.heap.size + 1 + 1), 2, none⟩) (by show _ ≤ (w.heap.size + 1 + 1); omega) (.int .i64 y))
          have d0 := Z9.cell 0
          have d1 := Z9.cell 1
          have d2 := Z9.cell 2
          simp only [List.getElem?_cons_zero, List.getElem?_cons_succ] at d0 d1 d2
          clear Z9
          refine bodyPost_ret (v := .tuple #[.agg #[.int .i64 3, .int .i64 x, .int .i64 y], .int .i64 (x)]) (by simp [results, Try.results41, go_sem, d0, d1, d2]) rfl ?_
          have HV := (show eitherF n gs ⟨3, x, y⟩ 0 1 = (⟨3, x, y⟩, x) from by unfold eitherF; simp [HP0.out (), HP1.out (), HP2.out (), HP3.out ()])
          exact ⟨by rw [HV], B9⟩
      · skip
        have cR : Hid (Row x13 (w.heap.size) 25 [.int .i64 n, .slice GA gn gc, .slice OA on oc]) := (rowCells RC.out B_wa.out)
        have c0 := cR.out.cell 0
        have c1 := cR.out.cell 1
        have c2 := cR.out.cell 2
        have cl := cR.out.lt
        simp only [List.getElem?_cons_zero, List.getElem?_cons_succ] at c0 c1 c2
        clear cR
        have gR : Hid (Row x13 (w.heap.size + 1) 32 [.int .i64 3, .int .i64 x, .int .i64 y]) := (rowCells RG.out B_wa.out)
        have g0 := gR.out.cell 0
        have g1 := gR.out.cell 1
        have g2 := gR.out.cell 2
        have gl := gR.out.lt
        simp only [List.getElem?_cons_zero, List.getElem?_cons_succ] at g0 g1 g2
        clear gR
        have zR : Hid (Row x13 (wb.heap.size) 32 [.int .i64 0, .int .i64 0, .int .i64 0]) := (rowCells RZ.out B_wc.out)
        have z0 := zR.out.cell 0
        have z1 := zR.out.cell 1
        have z2 := zR.out.cell 2
        have zl := zR.out.lt
        simp only [List.getElem?_cons_zero, List.getElem?_cons_succ] at z0 z1 z2
        clear zR
        have oR : Hid (Row x13 (wb.heap.size + 1) 32 [.int .i64 1, .int .i64 0, .int .i64 0]) := (rowCells RO.out B_wc.out)
        have o0 := oR.out.cell 0
        have o1 := oR.out.cell 1
        have o2 := oR.out.cell 2
        have ol := oR.out.lt
        simp only [List.getElem?_cons_zero, List.getElem?_cons_succ] at o0 o1 o2
        clear oR
        have rR : Hid (Row x13 (w.heap.size + 1 + 1) 32 [.int .i64 0, .int .i64 0, .int .i64 0]) := (rowCells RR.out B_wa.out)
        have r0 := rR.out.cell 0
        have r1 := rR.out.cell 1
        have r2 := rR.out.cell 2
        have rl := rR.out.lt
        simp only [List.getElem?_cons_zero, List.getElem?_cons_succ] at r0 r1 r2
        clear rR
        have RRf : Hid (Row x13 (w.heap.size + 1 + 1) 32 [.int .i64 0, .int .i64 0, .int .i64 0]) := (rowCells RR.out B_wa.out)
        have rf0 := RRf.out.frozen 0
        have rf1 := RRf.out.frozen 1
        have rf2 := RRf.out.frozen 2
        go_wp2
        have Z9 : Row (World.setCell (World.setCell (World.setCell x13 ⟨(w.heap.size + 1 + 1), 0, none⟩ (.int .i64 3)) ⟨(w.heap.size + 1 + 1), 1, none⟩ (.int .i64 x)) ⟨(w.heap.size + 1 + 1), 2, none⟩ (.int .i64 y)) (w.heap.size + 1 + 1) 32 [.int .i64 3, .int .i64 x, .int .i64 y] := (Row.set (Row.set (Row.set RRf.out 0 (.int .i64 3)) 1 (.int .i64 x)) 2 (.int .i64 y))
        have B9 : Below w.heap.size w (World.setCell (World.setCell (World.setCell x13 ⟨(w.heap.size + 1 + 1), 0, none⟩ (.int .i64 3)) ⟨(w.heap.size + 1 + 1), 1, none⟩ (.int .i64 x)) ⟨(w.heap.size + 1 + 1), 2, none⟩ (.int .i64 y)) := (Below.setCell (Below.setCell (Below.setCell B_w.out (p := ⟨(w.heap.size + 1 + 1), 0, none⟩) (by show _ ≤ (w.heap.size + 1 + 1); omega) (.int .i64 3)) (p := ⟨(w.heap.size + 1 + 1), 1, none⟩) (by show _ ≤ (w.heap.size + 1 + 1); omega) (.int .i64 x)) (p := ⟨(w.heap.size + 1 + 1), 2, none⟩) (by show _ ≤ (w.heap.size + 1 + 1); omega) (.int .i64 y))
        have d0 := Z9.cell 0
        have d1 := Z9.cell 1
        have d2 := Z9.cell 2
        simp only [List.getElem?_cons_zero, List.getElem?_cons_succ] at d0 d1 d2
        clear Z9
        refine bodyPost_ret (v := .tuple #[.agg #[.int .i64 3, .int .i64 x, .int .i64 y], .int .i64 (y)]) (by simp [results, Try.results41, go_sem, d0, d1, d2]) rfl ?_
        have HV := (show eitherF n gs ⟨3, x, y⟩ 0 1 = (⟨3, x, y⟩, y) from by unfold eitherF; simp [HP0.out (), HP1.out (), HP2.out ()])
        exact ⟨by rw [HV], B9⟩
    · skip
      have cR : Hid (Row x12 (w.heap.size) 25 [.int .i64 n, .slice GA gn gc, .slice OA on oc]) := (rowCells RC.out B_wa.out)
      have c0 := cR.out.cell 0
      have c1 := cR.out.cell 1
      have c2 := cR.out.cell 2
      have cl := cR.out.lt
      simp only [List.getElem?_cons_zero, List.getElem?_cons_succ] at c0 c1 c2
      clear cR
      have gR : Hid (Row x12 (w.heap.size + 1) 32 [.int .i64 3, .int .i64 x, .int .i64 y]) := (rowCells RG.out B_wa.out)
      have g0 := gR.out.cell 0
      have g1 := gR.out.cell 1
      have g2 := gR.out.cell 2
      have gl := gR.out.lt
      simp only [List.getElem?_cons_zero, List.getElem?_cons_succ] at g0 g1 g2
      clear gR
      have zR : Hid (Row x12 (wb.heap.size) 32 [.int .i64 0, .int .i64 0, .int .i64 0]) := (rowCells RZ.out B_wc.out)
      have z0 := zR.out.cell 0
      have z1 := zR.out.cell 1
      have z2 := zR.out.cell 2
      have zl := zR.out.lt
      simp only [List.getElem?_cons_zero, List.getElem?_cons_succ] at z0 z1 z2
      clear zR
      have oR : Hid (Row x12 (wb.heap.size + 1) 32 [.int .i64 1, .int .i64 0, .int .i64 0]) := (rowCells RO.out B_wc.out)
      have o0 := oR.out.cell 0
      have o1 := oR.out.cell 1
      have o2 := oR.out.cell 2
      have ol := oR.out.lt
      simp only [List.getElem?_cons_zero, List.getElem?_cons_succ] at o0 o1 o2
      clear oR
      have rR : Hid (Row x12 (w.heap.size + 1 + 1) 32 [.int .i64 0, .int .i64 0, .int .i64 0]) := (rowCells RR.out B_wa.out)
      have r0 := rR.out.cell 0
      have r1 := rR.out.cell 1
      have r2 := rR.out.cell 2
      have rl := rR.out.lt
      simp only [List.getElem?_cons_zero, List.getElem?_cons_succ] at r0 r1 r2
      clear rR
      have RRf : Hid (Row x12 (w.heap.size + 1 + 1) 32 [.int .i64 0, .int .i64 0, .int .i64 0]) := (rowCells RR.out B_wa.out)
      have rf0 := RRf.out.frozen 0
      have rf1 := RRf.out.frozen 1
      have rf2 := RRf.out.frozen 2
      go_wp2
      have Z9 : Row (World.setCell (World.setCell (World.setCell x12 ⟨(w.heap.size + 1 + 1), 0, none⟩ (.int .i64 0)) ⟨(w.heap.size + 1 + 1), 1, none⟩ (.int .i64 0)) ⟨(w.heap.size + 1 + 1), 2, none⟩ (.int .i64 0)) (w.heap.size + 1 + 1) 32 [.int .i64 0, .int .i64 0, .int .i64 0] := (Row.set (Row.set (Row.set RRf.out 0 (.int .i64 0)) 1 (.int .i64 0)) 2 (.int .i64 0))
      have B9 : Below w.heap.size w (World.setCell (World.setCell (World.setCell x12 ⟨(w.heap.size + 1 + 1), 0, none⟩ (.int .i64 0)) ⟨(w.heap.size + 1 + 1), 1, none⟩ (.int .i64 0)) ⟨(w.heap.size + 1 + 1), 2, none⟩ (.int .i64 0)) := (Below.setCell (Below.setCell (Below.setCell B_w.out (p := ⟨(w.heap.size + 1 + 1), 0, none⟩) (by show _ ≤ (w.heap.size + 1 + 1); omega) (.int .i64 0)) (p := ⟨(w.heap.size + 1 + 1), 1, none⟩) (by show _ ≤ (w.heap.size + 1 + 1); omega) (.int .i64 0)) (p := ⟨(w.heap.size + 1 + 1), 2, none⟩) (by show _ ≤ (w.heap.size + 1 + 1); omega) (.int .i64 0))
      have d0 := Z9.cell 0
      have d1 := Z9.cell 1
      have d2 := Z9.cell 2
      simp only [List.getElem?_cons_zero, List.getElem?_cons_succ] at d0 d1 d2
      clear Z9
      refine bodyPost_ret (v := .tuple #[.agg #[.int .i64 0, .int .i64 0, .int .i64 0], .int .i64 (-1)]) (by simp [results, Try.results41, go_sem, d0, d1, d2]) rfl ?_
      have HV := (show eitherF n gs ⟨3, x, y⟩ 0 1 = (⟨0, 0, 0⟩, -1) from by unfold eitherF; simp [HP0.out (), HP1.out ()])
      exact ⟨by rw [HV], B9⟩
  · skip
    have cR : Hid (Row x11 (w.heap.size) 25 [.int .i64 n, .slice GA gn gc, .slice OA on oc]) := (rowCells RC.out B_wa.out)
    have c0 := cR.out.cell 0
    have c1 := cR.out.cell 1
    have c2 := cR.out.cell 2
    have cl := cR.out.lt
    simp only [List.getElem?_cons_zero, List.getElem?_cons_succ] at c0 c1 c2
    clear cR
    have gR : Hid (Row x11 (w.heap.size + 1) 32 [.int .i64 3, .int .i64 x, .int .i64 y]) := (rowCells RG.out B_wa.out)
    have g0 := gR.out.cell 0
    have g1 := gR.out.cell 1
    have g2 := gR.out.cell 2
    have gl := gR.out.lt
    simp only [List.getElem?_cons_zero, List.getElem?_cons_succ] at g0 g1 g2
    clear gR
    have zR : Hid (Row x11 (wb.heap.size) 32 [.int .i64 0, .int .i64 0, .int .i64 0]) := (rowCells RZ.out B_wc.out)
    have z0 := zR.out.cell 0
    have z1 := zR.out.cell 1
    have z2 := zR.out.cell 2
    have zl := zR.out.lt
    simp only [List.getElem?_cons_zero, List.getElem?_cons_succ] at z0 z1 z2
    clear zR
    have oR : Hid (Row x11 (wb.heap.size + 1) 32 [.int .i64 1, .int .i64 0, .int .i64 0]) := (rowCells RO.out B_wc.out)
    have o0 := oR.out.cell 0
    have o1 := oR.out.cell 1
    have o2 := oR.out.cell 2
    have ol := oR.out.lt
    simp only [List.getElem?_cons_zero, List.getElem?_cons_succ] at o0 o1 o2
    clear oR
    have rR : Hid (Row x11 (w.heap.size + 1 + 1) 32 [.int .i64 0, .int .i64 0, .int .i64 0]) := (rowCells RR.out B_wa.out)
    have r0 := rR.out.cell 0
    have r1 := rR.out.cell 1
    have r2 := rR.out.cell 2
    have rl := rR.out.lt
    simp only [List.getElem?_cons_zero, List.getElem?_cons_succ] at r0 r1 r2
    clear rR
    have RRf : Hid (Row x11 (w.heap.size + 1 + 1) 32 [.int .i64 0, .int .i64 0, .int .i64 0]) := (rowCells RR.out B_wa.out)
    have rf0 := RRf.out.frozen 0
    have rf1 := RRf.out.frozen 1
    have rf2 := RRf.out.frozen 2
    go_wp2
    have Z9 : Row (World.setCell (World.setCell (World.setCell x11 ⟨(w.heap.size + 1 + 1), 0, none⟩ (.int .i64 0)) ⟨(w.heap.size + 1 + 1), 1, none⟩ (.int .i64 0)) ⟨(w.heap.size + 1 + 1), 2, none⟩ (.int .i64 0)) (w.heap.size + 1 + 1) 32 [.int .i64 0, .int .i64 0, .int .i64 0] := (Row.set (Row.set (Row.set RRf.out 0 (.int .i64 0)) 1 (.int .i64 0)) 2 (.int .i64 0))
    have B9 : Below w.heap.size w (World.setCell (World.setCell (World.setCell x11 ⟨(w.heap.size + 1 + 1), 0, none⟩ (.int .i64 0)) ⟨(w.heap.size + 1 + 1), 1, none⟩ (.int .i64 0)) ⟨(w.heap.size + 1 + 1), 2, none⟩ (.int .i64 0)) := (Below.setCell (Below.setCell (Below.setCell B_w.out (p := ⟨(w.heap.size + 1 + 1), 0, none⟩) (by show _ ≤ (w.heap.size + 1 + 1); omega) (.int .i64 0)) (p := ⟨(w.heap.size + 1 + 1), 1, none⟩) (by show _ ≤ (w.heap.size + 1 + 1); omega) (.int .i64 0)) (p := ⟨(w.heap.size + 1 + 1), 2, none⟩) (by show _ ≤ (w.heap.size + 1 + 1); omega) (.int .i64 0))
    have d0 := Z9.cell 0
    have d1 := Z9.cell 1
    have d2 := Z9.cell 2
    simp only [List.getElem?_cons_zero, List.getElem?_cons_succ] at d0 d1 d2
    clear Z9
    refine bodyPost_ret (v := .tuple #[.agg #[.int .i64 0, .int .i64 0, .int .i64 0], .int .i64 (-1)]) (by simp [results, Try.results41, go_sem, d0, d1, d2]) rfl ?_
    have HV := (show eitherF n gs ⟨3, x, y⟩ 0 1 = (⟨0, 0, 0⟩, -1) from by unfold eitherF; simp [HP0.out ()])
    exact ⟨by rw [HV], B9⟩
set_option maxRecDepth 100000 in
set_option maxHeartbeats 8000000 in
theorem rOr_any (n : Int) (gs : List Gt) (GA OA : Option Addr) (gn gc on oc : Nat) (x y : Int) (w : World) (hG : Rd w w.heap.size 3 GA gn (gatesCells gs)) (hn : 0 ≤ n ∧ n ≤ 1000) (hg : gn ≤ 20000) (hx : 0 ≤ x ∧ x < n + (gn : Int)) (hy : 0 ≤ y ∧ y < n + (gn : Int)) :
    Calls Try.prog 41 #[.agg #[.int .i64 n, .slice GA gn gc, .slice OA on oc], .agg #[.int .i64 4, .int .i64 x, .int .i64 y]] w (fun e w' => e = .returned (.tuple #[.agg #[.int .i64 (eitherF n gs ⟨4, x, y⟩ 1 0).1.op, .int .i64 (eitherF n gs ⟨4, x, y⟩ 1 0).1.a, .int .i64 (eitherF n gs ⟨4, x, y⟩ 1 0).1.b], .int .i64 (eitherF n gs ⟨4, x, y⟩ 1 0).2]) ∧ Below w.heap.size w w') := by
  have HG : Hid (Rd w w.heap.size 3 GA gn (gatesCells gs)) := hG
  have HBx : Hid (0 ≤ x ∧ x < n + (gn : Int)) := hx
  have HBy : Hid (0 ≤ y ∧ y < n + (gn : Int)) := hy
  clear hG hx hy
  obtain ⟨P0, hP0⟩ : ∃ q, isW n gs (x) 1 = q := ⟨_, rfl⟩
  have HP0 : Hid (∀ _ : Unit, isW n gs (x) 1 = P0) := fun _ => hP0
  clear hP0
  obtain ⟨P1, hP1⟩ : ∃ q, isW n gs (y) 1 = q := ⟨_, rfl⟩
  have HP1 : Hid (∀ _ : Unit, isW n gs (y) 1 = P1) := fun _ => hP1
  clear hP1
  obtain ⟨P2, hP2⟩ : ∃ q, isW n gs (x) 0 = q := ⟨_, rfl⟩
  have HP2 : Hid (∀ _ : Unit, isW n gs (x) 0 = P2) := fun _ => hP2
  clear hP2
  obtain ⟨P3, hP3⟩ : ∃ q, isW n gs (y) 0 = q := ⟨_, rfl⟩
  have HP3 : Hid (∀ _ : Unit, isW n gs (y) 0 = P3) := fun _ => hP3
  clear hP3
  obtain ⟨P4, hP4⟩ : ∃ q, oppW n gs x y = q := ⟨_, rfl⟩
  have HP4 : Hid (∀ _ : Unit, oppW n gs x y = P4) := fun _ => hP4
  clear hP4
  go_enter Try.func41, Try.ntmps41
  go_upto_region 1 with fail
  have RC : Hid (Row (World.alloc (World.alloc (World.alloc w (.cells #[.int .i64 n, .slice GA gn gc, .slice OA on oc] 25)) (.cells #[.int .i64 4, .int .i64 x, .int .i64 y] 32)) (.cells #[.int .i64 0, .int .i64 0, .int .i64 0] 32)) (w.heap.size) 25 [.int .i64 n, .slice GA gn gc, .slice OA on oc]) := by
    have h0 := Row.new w 25 [.int .i64 n, .slice GA gn gc, .slice OA on oc]
    try simp only [World.size_alloc] at h0
    exact ((h0.alloc _).alloc _)
  have RG : Hid (Row (World.alloc (World.alloc (World.alloc w (.cells #[.int .i64 n, .slice GA gn gc, .slice OA on oc] 25)) (.cells #[.int .i64 4, .int .i64 x, .int .i64 y] 32)) (.cells #[.int .i64 0, .int .i64 0, .int .i64 0] 32)) (w.heap.size + 1) 32 [.int .i64 4, .int .i64 x, .int .i64 y]) := by
    have h0 := Row.new (World.alloc w (.cells #[.int .i64 n, .slice GA gn gc, .slice OA on oc] 25)) 32 [.int .i64 4, .int .i64 x, .int .i64 y]
    try simp only [World.size_alloc] at h0
    exact (h0.alloc _)
  have RR : Hid (Row (World.alloc (World.alloc (World.alloc w (.cells #[.int .i64 n, .slice GA gn gc, .slice OA on oc] 25)) (.cells #[.int .i64 4, .int .i64 x, .int .i64 y] 32)) (.cells #[.int .i64 0, .int .i64 0, .int .i64 0] 32)) (w.heap.size + 1 + 1) 32 [.int .i64 0, .int .i64 0, .int .i64 0]) := by
    have h0 := Row.new (World.alloc (World.alloc w (.cells #[.int .i64 n, .slice GA gn gc, .slice OA on oc] 25)) (.cells #[.int .i64 4, .int .i64 x, .int .i64 y] 32)) 32 [.int .i64 0, .int .i64 0, .int .i64 0]
    try simp only [World.size_alloc] at h0
    exact h0
  have hgr9 : Below w.heap.size w (World.alloc (World.alloc (World.alloc w (.cells #[.int .i64 n, .slice GA gn gc, .slice OA on oc] 25)) (.cells #[.int .i64 4, .int .i64 x, .int .i64 y] 32)) (.cells #[.int .i64 0, .int .i64 0, .int .i64 0] 32)) := by go_grown
  have B_w : Hid (Below w.heap.size w (World.alloc (World.alloc (World.alloc w (.cells #[.int .i64 n, .slice GA gn gc, .slice OA on oc] 25)) (.cells #[.int .i64 4, .int .i64 x, .int .i64 y] 32)) (.cells #[.int .i64 0, .int .i64 0, .int .i64 0] 32))) := hgr9
  clear hgr9
  revert RC RG RR B_w
  generalize (World.alloc (World.alloc (World.alloc w (.cells #[.int .i64 n, .slice GA gn gc, .slice OA on oc] 25)) (.cells #[.int .i64 4, .int .i64 x, .int .i64 y] 32)) (.cells #[.int .i64 0, .int .i64 0, .int .i64 0] 32)) = wa
  intro RC RG RR B_w
  have hwa : w.heap.size + 1 + 1 < wa.heap.size := RR.out.lt
  have gR : Hid (Row wa (w.heap.size + 1) 32 [.int .i64 4, .int .i64 x, .int .i64 y]) := RG.out
  have g0 := gR.out.cell 0
  have g1 := gR.out.cell 1
  have g2 := gR.out.cell 2
  have gl := gR.out.lt
  simp only [List.getElem?_cons_zero, List.getElem?_cons_succ] at g0 g1 g2
  clear gR
  go_quiet (fail)
  have B_w : Hid (Below w.heap.size w (wa.drewN nq)) := below_drewN B_w.out nq
  have B_wa : Hid (Below wa.heap.size wa (wa.drewN nq)) := below_drewN (Below.refl _ _) nq
  clear g0 g1 g2 gl
  revert B_w B_wa
  generalize (wa.drewN nq) = wb
  intro B_w B_wa
  go_upto_region 3 with fail
  have RZ : Hid (Row (World.alloc (World.alloc wb (.cells #[.int .i64 0, .int .i64 0, .int .i64 0] 32)) (.cells #[.int .i64 1, .int .i64 0, .int .i64 0] 32)) (wb.heap.size) 32 [.int .i64 0, .int .i64 0, .int .i64 0]) := by
    have h0 := Row.new wb 32 [.int .i64 0, .int .i64 0, .int .i64 0]
    try simp only [World.size_alloc] at h0
    exact (h0.alloc _)
  have RO : Hid (Row (World.alloc (World.alloc wb (.cells #[.int .i64 0, .int .i64 0, .int .i64 0] 32)) (.cells #[.int .i64 1, .int .i64 0, .int .i64 0] 32)) (wb.heap.size + 1) 32 [.int .i64 1, .int .i64 0, .int .i64 0]) := by
    have h0 := Row.new (World.alloc wb (.cells #[.int .i64 0, .int .i64 0, .int .i64 0] 32)) 32 [.int .i64 1, .int .i64 0, .int .i64 0]
    try simp only [World.size_alloc] at h0
    exact h0
  have hgr9 : Below wb.heap.size wb (World.alloc (World.alloc wb (.cells #[.int .i64 0, .int .i64 0, .int .i64 0] 32)) (.cells #[.int .i64 1, .int .i64 0, .int .i64 0] 32)) := by go_grown
  have B_w : Hid (Below w.heap.size w (World.alloc (World.alloc wb (.cells #[.int .i64 0, .int .i64 0, .int .i64 0] 32)) (.cells #[.int .i64 1, .int .i64 0, .int .i64 0] 32))) := below_on2 B_w.out hgr9
  have B_wa : Hid (Below wa.heap.size wa (World.alloc (World.alloc wb (.cells #[.int .i64 0, .int .i64 0, .int .i64 0] 32)) (.cells #[.int .i64 1, .int .i64 0, .int .i64 0] 32))) := below_on2 B_wa.out hgr9
  have B_wb : Hid (Below wb.heap.size wb (World.alloc (World.alloc wb (.cells #[.int .i64 0, .int .i64 0, .int .i64 0] 32)) (.cells #[.int .i64 1, .int .i64 0, .int .i64 0] 32))) := hgr9
  clear hgr9
  revert RZ RO B_w B_wa B_wb
  generalize (World.alloc (World.alloc wb (.cells #[.int .i64 0, .int .i64 0, .int .i64 0] 32)) (.cells #[.int .i64 1, .int .i64 0, .int .i64 0] 32)) = wc
  intro RZ RO B_w B_wa B_wb
  have cR : Hid (Row wc (w.heap.size) 25 [.int .i64 n, .slice GA gn gc, .slice OA on oc]) := (rowCells RC.out B_wa.out)
  have c0 := cR.out.cell 0
  have c1 := cR.out.cell 1
  have c2 := cR.out.cell 2
  have cl := cR.out.lt
  simp only [List.getElem?_cons_zero, List.getElem?_cons_succ] at c0 c1 c2
  clear cR
  have gR : Hid (Row wc (w.heap.size + 1) 32 [.int .i64 4, .int .i64 x, .int .i64 y]) := (rowCells RG.out B_wa.out)
  have g0 := gR.out.cell 0
  have g1 := gR.out.cell 1
  have g2 := gR.out.cell 2
  have gl := gR.out.lt
  simp only [List.getElem?_cons_zero, List.getElem?_cons_succ] at g0 g1 g2
  clear gR
  have zR : Hid (Row wc (wb.heap.size) 32 [.int .i64 0, .int .i64 0, .int .i64 0]) := RZ.out
  have z0 := zR.out.cell 0
  have z1 := zR.out.cell 1
  have z2 := zR.out.cell 2
  have zl := zR.out.lt
  simp only [List.getElem?_cons_zero, List.getElem?_cons_succ] at z0 z1 z2
  clear zR
  have oR : Hid (Row wc (wb.heap.size + 1) 32 [.int .i64 1, .int .i64 0, .int .i64 0]) := RO.out
  have o0 := oR.out.cell 0
  have o1 := oR.out.cell 1
  have o2 := oR.out.cell 2
  have ol := oR.out.lt
  simp only [List.getElem?_cons_zero, List.getElem?_cons_succ] at o0 o1 o2
  clear oR
  go_wp2_with fail
  have HC := rIs_any n gs GA OA gn gc on oc (x) 1 wc ((HG.out.up B_w.out)) hn hg HBx.out.2 (by have := HBx.out.1; omega)
  rw [HP0.out ()] at HC
  refine HC.mono ?_
  clear HC
  rintro e x16 ⟨rfl, hb⟩
  have B_w : Hid (Below w.heap.size w x16) := below_on2 B_w.out hb
  have B_wa : Hid (Below wa.heap.size wa x16) := below_on2 B_wa.out hb
  have B_wb : Hid (Below wb.heap.size wb x16) := below_on2 B_wb.out hb
  have B_wc : Hid (Below wc.heap.size wc x16) := hb
  clear c0 c1 c2 cl g0 g1 g2 gl z0 z1 z2 zl o0 o1 o2 ol
  clear hb
  cases P0
  · skip
    have cR : Hid (Row x16 (w.heap.size) 25 [.int .i64 n, .slice GA gn gc, .slice OA on oc]) := (rowCells RC.out B_wa.out)
    have c0 := cR.out.cell 0
    have c1 := cR.out.cell 1
    have c2 := cR.out.cell 2
    have cl := cR.out.lt
    simp only [List.getElem?_cons_zero, List.getElem?_cons_succ] at c0 c1 c2
    clear cR
    have gR : Hid (Row x16 (w.heap.size + 1) 32 [.int .i64 4, .int .i64 x, .int .i64 y]) := (rowCells RG.out B_wa.out)
    have g0 := gR.out.cell 0
    have g1 := gR.out.cell 1
    have g2 := gR.out.cell 2
    have gl := gR.out.lt
    simp only [List.getElem?_cons_zero, List.getElem?_cons_succ] at g0 g1 g2
    clear gR
    have zR : Hid (Row x16 (wb.heap.size) 32 [.int .i64 0, .int .i64 0, .int .i64 0]) := (rowCells RZ.out B_wc.out)
    have z0 := zR.out.cell 0
    have z1 := zR.out.cell 1
    have z2 := zR.out.cell 2
    have zl := zR.out.lt
    simp only [List.getElem?_cons_zero, List.getElem?_cons_succ] at z0 z1 z2
    clear zR
    have oR : Hid (Row x16 (wb.heap.size + 1) 32 [.int .i64 1, .int .i64 0, .int .i64 0]) := (rowCells RO.out B_wc.out)
    have o0 := oR.out.cell 0
    have o1 := oR.out.cell 1
    have o2 := oR.out.cell 2
    have ol := oR.out.lt
    simp only [List.getElem?_cons_zero, List.getElem?_cons_succ] at o0 o1 o2
    clear oR
    go_wp2_with fail
    have HC := rIs_any n gs GA OA gn gc on oc (y) 1 x16 ((HG.out.up B_w.out)) hn hg HBy.out.2 (by have := HBy.out.1; omega)
    rw [HP1.out ()] at HC
    refine HC.mono ?_
    clear HC
    rintro e x17 ⟨rfl, hb⟩
    have B_w : Hid (Below w.heap.size w x17) := below_on2 B_w.out hb
    have B_wa : Hid (Below wa.heap.size wa x17) := below_on2 B_wa.out hb
    have B_wb : Hid (Below wb.heap.size wb x17) := below_on2 B_wb.out hb
    have B_wc : Hid (Below wc.heap.size wc x17) := below_on2 B_wc.out hb
    have B_x16 : Hid (Below x16.heap.size x16 x17) := hb
    clear c0 c1 c2 cl g0 g1 g2 gl z0 z1 z2 zl o0 o1 o2 ol
    clear hb
    cases P1
    · skip
      have cR : Hid (Row x17 (w.heap.size) 25 [.int .i64 n, .slice GA gn gc, .slice OA on oc]) := (rowCells RC.out B_wa.out)
      have c0 := cR.out.cell 0
      have c1 := cR.out.cell 1
      have c2 := cR.out.cell 2
      have cl := cR.out.lt
      simp only [List.getElem?_cons_zero, List.getElem?_cons_succ] at c0 c1 c2
      clear cR
      have gR : Hid (Row x17 (w.heap.size + 1) 32 [.int .i64 4, .int .i64 x, .int .i64 y]) := (rowCells RG.out B_wa.out)
      have g0 := gR.out.cell 0
      have g1 := gR.out.cell 1
      have g2 := gR.out.cell 2
      have gl := gR.out.lt
      simp only [List.getElem?_cons_zero, List.getElem?_cons_succ] at g0 g1 g2
      clear gR
      have zR : Hid (Row x17 (wb.heap.size) 32 [.int .i64 0, .int .i64 0, .int .i64 0]) := (rowCells RZ.out B_wc.out)
      have z0 := zR.out.cell 0
      have z1 := zR.out.cell 1
      have z2 := zR.out.cell 2
      have zl := zR.out.lt
      simp only [List.getElem?_cons_zero, List.getElem?_cons_succ] at z0 z1 z2
      clear zR
      have oR : Hid (Row x17 (wb.heap.size + 1) 32 [.int .i64 1, .int .i64 0, .int .i64 0]) := (rowCells RO.out B_wc.out)
      have o0 := oR.out.cell 0
      have o1 := oR.out.cell 1
      have o2 := oR.out.cell 2
      have ol := oR.out.lt
      simp only [List.getElem?_cons_zero, List.getElem?_cons_succ] at o0 o1 o2
      clear oR
      go_wp2_with fail
      have HC := rIs_any n gs GA OA gn gc on oc (x) 0 x17 ((HG.out.up B_w.out)) hn hg HBx.out.2 (by have := HBx.out.1; omega)
      rw [HP2.out ()] at HC
      refine HC.mono ?_
      clear HC
      rintro e x18 ⟨rfl, hb⟩
      have B_w : Hid (Below w.heap.size w x18) := below_on2 B_w.out hb
      have B_wa : Hid (Below wa.heap.size wa x18) := below_on2 B_wa.out hb
      have B_wb : Hid (Below wb.heap.size wb x18) := below_on2 B_wb.out hb
      have B_wc : Hid (Below wc.heap.size wc x18) := below_on2 B_wc.out hb
      have B_x16 : Hid (Below x16.heap.size x16 x18) := below_on2 B_x16.out hb
      have B_x17 : Hid (Below x17.heap.size x17 x18) := hb
      clear c0 c1 c2 cl g0 g1 g2 gl z0 z1 z2 zl o0 o1 o2 ol
      clear hb
      cases P2
      · skip
        have cR : Hid (Row x18 (w.heap.size) 25 [.int .i64 n, .slice GA gn gc, .slice OA on oc]) := (rowCells RC.out B_wa.out)
        have c0 := cR.out.cell 0
        have c1 := cR.out.cell 1
        have c2 := cR.out.cell 2
        have cl := cR.out.lt
        simp only [List.getElem?_cons_zero, List.getElem?_cons_succ] at c0 c1 c2
        clear cR
        have gR : Hid (Row x18 (w.heap.size + 1) 32 [.int .i64 4, .int .i64 x, .int .i64 y]) := (rowCells RG.out B_wa.out)
        have g0 := gR.out.cell 0
        have g1 := gR.out.cell 1
        have g2 := gR.out.cell 2
        have gl := gR.out.lt
        simp only [List.getElem?_cons_zero, List.getElem?_cons_succ] at g0 g1 g2
        clear gR
        have zR : Hid (Row x18 (wb.heap.size) 32 [.int .i64 0, .int .i64 0, .int .i64 0]) := (rowCells RZ.out B_wc.out)
        have z0 := zR.out.cell 0
        have z1 := zR.out.cell 1
        have z2 := zR.out.cell 2
        have zl := zR.out.lt
        simp only [List.getElem?_cons_zero, List.getElem?_cons_succ] at z0 z1 z2
        clear zR
        have oR : Hid (Row x18 (wb.heap.size + 1) 32 [.int .i64 1, .int .i64 0, .int .i64 0]) := (rowCells RO.out B_wc.out)
        have o0 := oR.out.cell 0
        have o1 := oR.out.cell 1
        have o2 := oR.out.cell 2
        have ol := oR.out.lt
        simp only [List.getElem?_cons_zero, List.getElem?_cons_succ] at o0 o1 o2
        clear oR
        go_wp2_with fail
        have HC := rIs_any n gs GA OA gn gc on oc (y) 0 x18 ((HG.out.up B_w.out)) hn hg HBy.out.2 (by have := HBy.out.1; omega)
        rw [HP3.out ()] at HC
        refine HC.mono ?_
        clear HC
        rintro e x19 ⟨rfl, hb⟩
        have B_w : Hid (Below w.heap.size w x19) := below_on2 B_w.out hb
        have B_wa : Hid (Below wa.heap.size wa x19) := below_on2 B_wa.out hb
        have B_wb : Hid (Below wb.heap.size wb x19) := below_on2 B_wb.out hb
        have B_wc : Hid (Below wc.heap.size wc x19) := below_on2 B_wc.out hb
        have B_x16 : Hid (Below x16.heap.size x16 x19) := below_on2 B_x16.out hb
        have B_x17 : Hid (Below x17.heap.size x17 x19) := below_on2 B_x17.out hb
        have B_x18 : Hid (Below x18.heap.size x18 x19) := hb
        clear c0 c1 c2 cl g0 g1 g2 gl z0 z1 z2 zl o0 o1 o2 ol
        clear hb
        cases P3
        · skip
          by_cases hxy : x = y
          · subst hxy
            have cR : Hid (Row x19 (w.heap.size) 25 [.int .i64 n, .slice GA gn gc, .slice OA on oc]) := (rowCells RC.out B_wa.out)
            have c0 := cR.out.cell 0
            have c1 := cR.out.cell 1
            have c2 := cR.out.cell 2
            have cl := cR.out.lt
            simp only [List.getElem?_cons_zero, List.getElem?_cons_succ] at c0 c1 c2
            clear cR
            have gR : Hid (Row x19 (w.heap.size + 1) 32 [.int .i64 4, .int .i64 x, .int .i64 x]) := (rowCells RG.out B_wa.out)
            have g0 := gR.out.cell 0
            have g1 := gR.out.cell 1
            have g2 := gR.out.cell 2
            have gl := gR.out.lt
            simp only [List.getElem?_cons_zero, List.getElem?_cons_succ] at g0 g1 g2
            clear gR
            have zR : Hid (Row x19 (wb.heap.size) 32 [.int .i64 0, .int .i64 0, .int .i64 0]) := (rowCells RZ.out B_wc.out)
            have z0 := zR.out.cell 0
            have z1 := zR.out.cell 1
            have z2 := zR.out.cell 2
            have zl := zR.out.lt
            simp only [List.getElem?_cons_zero, List.getElem?_cons_succ] at z0 z1 z2
            clear zR
            have oR : Hid (Row x19 (wb.heap.size + 1) 32 [.int .i64 1, .int .i64 0, .int .i64 0]) := (rowCells RO.out B_wc.out)
            have o0 := oR.out.cell 0
            have o1 := oR.out.cell 1
            have o2 := oR.out.cell 2
            have ol := oR.out.lt
            simp only [List.getElem?_cons_zero, List.getElem?_cons_succ] at o0 o1 o2
            clear oR
            have rR : Hid (Row x19 (w.heap.size + 1 + 1) 32 [.int .i64 0, .int .i64 0, .int .i64 0]) := (rowCells RR.out B_wa.out)
            have r0 := rR.out.cell 0
            have r1 := rR.out.cell 1
            have r2 := rR.out.cell 2
            have rl := rR.out.lt
            simp only [List.getElem?_cons_zero, List.getElem?_cons_succ] at r0 r1 r2
            clear rR
            have RRf : Hid (Row x19 (w.heap.size + 1 + 1) 32 [.int .i64 0, .int .i64 0, .int .i64 0]) := (rowCells RR.out B_wa.out)
            have rf0 := RRf.out.frozen 0
            have rf1 := RRf.out.frozen 1
            have rf2 := RRf.out.frozen 2
            go_wp2
            have Z9 : Row (World.setCell (World.setCell (World.setCell x19 ⟨(w.heap.size + 1 + 1), 0, none⟩ (.int .i64 4)) ⟨(w.heap.size + 1 + 1), 1, none⟩ (.int .i64 x)) ⟨(w.heap.size + 1 + 1), 2, none⟩ (.int .i64 x)) (w.heap.size + 1 + 1) 32 [.int .i64 4, .int .i64 x, .int .i64 x] := (Row.set (Row.set (Row.set RRf.out 0 (.int .i64 4)) 1 (.int .i64 x)) 2 (.int .i64 x))
            have B9 : Below w.heap.size w (World.setCell (World.setCell (World.setCell x19 ⟨(w.heap.size + 1 + 1), 0, none⟩ (.int .i64 4)) ⟨(w.heap.size + 1 + 1), 1, none⟩ (.int .i64 x)) ⟨(w.heap.size + 1 + 1), 2, none⟩ (.int .i64 x)) := (Below.setCell (Below.setCell (Below.setCell B_w.out (p := ⟨(w.heap.size + 1 + 1), 0, none⟩) (by show _ ≤ (w.heap.size + 1 + 1); omega) (.int .i64 4)) (p := ⟨(w.heap.size + 1 + 1), 1, none⟩) (by show _ ≤ (w.heap.size + 1 + 1); omega) (.int .i64 x)) (p := ⟨(w.heap.size + 1 + 1), 2, none⟩) (by show _ ≤ (w.heap.size + 1 + 1); omega) (.int .i64 x))
            have d0 := Z9.cell 0
            have d1 := Z9.cell 1
            have d2 := Z9.cell 2
            simp only [List.getElem?_cons_zero, List.getElem?_cons_succ] at d0 d1 d2
            clear Z9
            refine bodyPost_ret (v := .tuple #[.agg #[.int .i64 4, .int .i64 x, .int .i64 x], .int .i64 (x)]) (by simp [results, Try.results41, go_sem, d0, d1, d2]) rfl ?_
            have HV := (show eitherF n gs ⟨4, x, x⟩ 1 0 = (⟨4, x, x⟩, x) from by unfold eitherF; simp [HP0.out (), HP1.out (), HP2.out (), HP3.out ()])
            exact ⟨by rw [HV], B9⟩
          · have he1 : (x == y) = false := by simpa using hxy
            have he2 : decide (x = y) = false := decide_eq_false hxy
            have cR : Hid (Row x19 (w.heap.size) 25 [.int .i64 n, .slice GA gn gc, .slice OA on oc]) := (rowCells RC.out B_wa.out)
            have c0 := cR.out.cell 0
            have c1 := cR.out.cell 1
            have c2 := cR.out.cell 2
            have cl := cR.out.lt
            simp only [List.getElem?_cons_zero, List.getElem?_cons_succ] at c0 c1 c2
            clear cR
            have gR : Hid (Row x19 (w.heap.size + 1) 32 [.int .i64 4, .int .i64 x, .int .i64 y]) := (rowCells RG.out B_wa.out)
            have g0 := gR.out.cell 0
            have g1 := gR.out.cell 1
            have g2 := gR.out.cell 2
            have gl := gR.out.lt
            simp only [List.getElem?_cons_zero, List.getElem?_cons_succ] at g0 g1 g2
            clear gR
            have zR : Hid (Row x19 (wb.heap.size) 32 [.int .i64 0, .int .i64 0, .int .i64 0]) := (rowCells RZ.out B_wc.out)
            have z0 := zR.out.cell 0
            have z1 := zR.out.cell 1
            have z2 := zR.out.cell 2
            have zl := zR.out.lt
            simp only [List.getElem?_cons_zero, List.getElem?_cons_succ] at z0 z1 z2
            clear zR
            have oR : Hid (Row x19 (wb.heap.size + 1) 32 [.int .i64 1, .int .i64 0, .int .i64 0]) := (rowCells RO.out B_wc.out)
            have o0 := oR.out.cell 0
            have o1 := oR.out.cell 1
            have o2 := oR.out.cell 2
            have ol := oR.out.lt
            simp only [List.getElem?_cons_zero, List.getElem?_cons_succ] at o0 o1 o2
            clear oR
            go_wp2_with fail
            have HC := rOpp_any n gs GA OA gn gc on oc x y x19 ((HG.out.up B_w.out)) hn hg HBx.out.2 (by have := HBx.out.1; omega) HBy.out.2 (by have := HBy.out.1; omega)
            rw [HP4.out ()] at HC
            refine HC.mono ?_
            clear HC
            rintro e x20 ⟨rfl, hb⟩
            have B_w : Hid (Below w.heap.size w x20) := below_on2 B_w.out hb
            have B_wa : Hid (Below wa.heap.size wa x20) := below_on2 B_wa.out hb
            have B_wb : Hid (Below wb.heap.size wb x20) := below_on2 B_wb.out hb
            have B_wc : Hid (Below wc.heap.size wc x20) := below_on2 B_wc.out hb
            have B_x16 : Hid (Below x16.heap.size x16 x20) := below_on2 B_x16.out hb
            have B_x17 : Hid (Below x17.heap.size x17 x20) := below_on2 B_x17.out hb
            have B_x18 : Hid (Below x18.heap.size x18 x20) := below_on2 B_x18.out hb
            have B_x19 : Hid (Below x19.heap.size x19 x20) := hb
            clear c0 c1 c2 cl g0 g1 g2 gl z0 z1 z2 zl o0 o1 o2 ol
            clear hb
            cases P4
            · skip
              have cR : Hid (Row x20 (w.heap.size) 25 [.int .i64 n, .slice GA gn gc, .slice OA on oc]) := (rowCells RC.out B_wa.out)
              have c0 := cR.out.cell 0
              have c1 := cR.out.cell 1
              have c2 := cR.out.cell 2
              have cl := cR.out.lt
              simp only [List.getElem?_cons_zero, List.getElem?_cons_succ] at c0 c1 c2
              clear cR
              have gR : Hid (Row x20 (w.heap.size + 1) 32 [.int .i64 4, .int .i64 x, .int .i64 y]) := (rowCells RG.out B_wa.out)
              have g0 := gR.out.cell 0
              have g1 := gR.out.cell 1
              have g2 := gR.out.cell 2
              have gl := gR.out.lt
              simp only [List.getElem?_cons_zero, List.getElem?_cons_succ] at g0 g1 g2
              clear gR
              have zR : Hid (Row x20 (wb.heap.size) 32 [.int .i64 0, .int .i64 0, .int .i64 0]) := (rowCells RZ.out B_wc.out)
              have z0 := zR.out.cell 0
              have z1 := zR.out.cell 1
              have z2 := zR.out.cell 2
              have zl := zR.out.lt
              simp only [List.getElem?_cons_zero, List.getElem?_cons_succ] at z0 z1 z2
              clear zR
              have oR : Hid (Row x20 (wb.heap.size + 1) 32 [.int .i64 1, .int .i64 0, .int .i64 0]) := (rowCells RO.out B_wc.out)
              have o0 := oR.out.cell 0
              have o1 := oR.out.cell 1
              have o2 := oR.out.cell 2
              have ol := oR.out.lt
              simp only [List.getElem?_cons_zero, List.getElem?_cons_succ] at o0 o1 o2
              clear oR
              have rR : Hid (Row x20 (w.heap.size + 1 + 1) 32 [.int .i64 0, .int .i64 0, .int .i64 0]) := (rowCells RR.out B_wa.out)
              have r0 := rR.out.cell 0
              have r1 := rR.out.cell 1
              have r2 := rR.out.cell 2
              have rl := rR.out.lt
              simp only [List.getElem?_cons_zero, List.getElem?_cons_succ] at r0 r1 r2
              clear rR
              have RRf : Hid (Row x20 (w.heap.size + 1 + 1) 32 [.int .i64 0, .int .i64 0, .int .i64 0]) := (rowCells RR.out B_wa.out)
              have rf0 := RRf.out.frozen 0
              have rf1 := RRf.out.frozen 1
              have rf2 := RRf.out.frozen 2
              go_wp2
              have Z9 : Row (World.setCell (World.setCell (World.setCell x20 ⟨(w.heap.size + 1 + 1), 0, none⟩ (.int .i64 4)) ⟨(w.heap.size + 1 + 1), 1, none⟩ (.int .i64 x)) ⟨(w.heap.size + 1 + 1), 2, none⟩ (.int .i64 y)) (w.heap.size + 1 + 1) 32 [.int .i64 4, .int .i64 x, .int .i64 y] := (Row.set (Row.set (Row.set RRf.out 0 (.int .i64 4)) 1 (.int .i64 x)) 2 (.int .i64 y))
              have B9 : Below w.heap.size w (World.setCell (World.setCell (World.setCell x20 ⟨(w.heap.size + 1 + 1), 0, none⟩ (.int .i64 4)) ⟨(w.heap.size + 1 + 1), 1, none⟩ (.int .i64 x)) ⟨(w.heap.size + 1 + 1), 2, none⟩ (.int .i64 y)) := (Below.setCell (Below.setCell (Below.setCell B_w.out (p := ⟨(w.heap.size + 1 + 1), 0, none⟩) (by show _ ≤ (w.heap.size + 1 + 1); omega) (.int .i64 4)) (p := ⟨(w.heap.size + 1 + 1), 1, none⟩) (by show _ ≤ (w.heap.size + 1 + 1); omega) (.int .i64 x)) (p := ⟨(w.heap.size + 1 + 1), 2, none⟩) (by show _ ≤ (w.heap.size + 1 + 1); omega) (.int .i64 y))
              have d0 := Z9.cell 0
              have d1 := Z9.cell 1
              have d2 := Z9.cell 2
              simp only [List.getElem?_cons_zero, List.getElem?_cons_succ] at d0 d1 d2
              clear Z9
              refine bodyPost_ret (v := .tuple #[.agg #[.int .i64 4, .int .i64 x, .int .i64 y], .int .i64 (-1)]) (by simp [results, Try.results41, go_sem, d0, d1, d2]) rfl ?_
              have HV := (show eitherF n gs ⟨4, x, y⟩ 1 0 = (⟨4, x, y⟩, -1) from by unfold eitherF; simp [HP0.out (), HP1.out (), HP2.out (), HP3.out (), HP4.out (), hxy])
              exact ⟨by rw [HV], B9⟩
            · skip
              have cR : Hid (Row x20 (w.heap.size) 25 [.int .i64 n, .slice GA gn gc, .slice OA on oc]) := (rowCells RC.out B_wa.out)
              have c0 := cR.out.cell 0
              have c1 := cR.out.cell 1
              have c2 := cR.out.cell 2
              have cl := cR.out.lt
              simp only [List.getElem?_cons_zero, List.getElem?_cons_succ] at c0 c1 c2
              clear cR
              have gR : Hid (Row x20 (w.heap.size + 1) 32 [.int .i64 4, .int .i64 x, .int .i64 y]) := (rowCells RG.out B_wa.out)
              have g0 := gR.out.cell 0
              have g1 := gR.out.cell 1
              have g2 := gR.out.cell 2
              have gl := gR.out.lt
              simp only [List.getElem?_cons_zero, List.getElem?_cons_succ] at g0 g1 g2
              clear gR
              have zR : Hid (Row x20 (wb.heap.size) 32 [.int .i64 0, .int .i64 0, .int .i64 0]) := (rowCells RZ.out B_wc.out)
              have z0 := zR.out.cell 0
              have z1 := zR.out.cell 1
              have z2 := zR.out.cell 2
              have zl := zR.out.lt
              simp only [List.getElem?_cons_zero, List.getElem?_cons_succ] at z0 z1 z2
              clear zR
              have oR : Hid (Row x20 (wb.heap.size + 1) 32 [.int .i64 1, .int .i64 0, .int .i64 0]) := (rowCells RO.out B_wc.out)
              have o0 := oR.out.cell 0
              have o1 := oR.out.cell 1
              have o2 := oR.out.cell 2
              have ol := oR.out.lt
              simp only [List.getElem?_cons_zero, List.getElem?_cons_succ] at o0 o1 o2
              clear oR
              have rR : Hid (Row x20 (w.heap.size + 1 + 1) 32 [.int .i64 0, .int .i64 0, .int .i64 0]) := (rowCells RR.out B_wa.out)
              have r0 := rR.out.cell 0
              have r1 := rR.out.cell 1
              have r2 := rR.out.cell 2
              have rl := rR.out.lt
              simp only [List.getElem?_cons_zero, List.getElem?_cons_succ] at r0 r1 r2
              clear rR
              have RRf : Hid (Row x20 (w.heap.size + 1 + 1) 32 [.int .i64 0, .int .i64 0, .int .i64 0]) := (rowCells RR.out B_wa.out)
              have rf0 := RRf.out.frozen 0
              have rf1 := RRf.out.frozen 1
              have rf2 := RRf.out.frozen 2
              go_wp2
              have Z9 : Row (World.setCell (World.setCell (World.setCell x20 ⟨(w.heap.size + 1 + 1), 0, none⟩ (.int .i64 1)) ⟨(w.heap.size + 1 + 1), 1, none⟩ (.int .i64 0)) ⟨(w.heap.size + 1 + 1), 2, none⟩ (.int .i64 0)) (w.heap.size + 1 + 1) 32 [.int .i64 1, .int .i64 0, .int .i64 0] := (Row.set (Row.set (Row.set RRf.out 0 (.int .i64 1)) 1 (.int .i64 0)) 2 (.int .i64 0))
              have B9 : Below w.heap.size w (World.setCell (World.setCell (World.setCell x20 ⟨(w.heap.size + 1 + 1), 0, none⟩ (.int .i64 1)) ⟨(w.heap.size + 1 + 1), 1, none⟩ (.int .i64 0)) ⟨(w.heap.size + 1 + 1), 2, none⟩ (.int .i64 0)) := (Below.setCell (Below.setCell (Below.setCell B_w.out (p := ⟨(w.heap.size + 1 + 1), 0, none⟩) (by show _ ≤ (w.heap.size + 1 + 1); omega) (.int .i64 1)) (p := ⟨(w.heap.size + 1 + 1), 1, none⟩) (by show _ ≤ (w.heap.size + 1 + 1); omega) (.int .i64 0)) (p := ⟨(w.heap.size + 1 + 1), 2, none⟩) (by show _ ≤ (w.heap.size + 1 + 1); omega) (.int .i64 0))
              have d0 := Z9.cell 0
              have d1 := Z9.cell 1
              have d2 := Z9.cell 2
              simp only [List.getElem?_cons_zero, List.getElem?_cons_succ] at d0 d1 d2
              clear Z9
              refine bodyPost_ret (v := .tuple #[.agg #[.int .i64 1, .int .i64 0, .int .i64 0], .int .i64 (-1)]) (by simp [results, Try.results41, go_sem, d0, d1, d2]) rfl ?_
              have HV := (show eitherF n gs ⟨4, x, y⟩ 1 0 = (⟨1, 0, 0⟩, -1) from by unfold eitherF; simp [HP0.out (), HP1.out (), HP2.out (), HP3.out (), HP4.out (), hxy])
              exact ⟨by rw [HV], B9⟩
        · skip
          have cR : Hid (Row x19 (w.heap.size) 25 [.int .i64 n, .slice GA gn gc, .slice OA on oc]) := (rowCells RC.out B_wa.out)
          have c0 := cR.out.cell 0
          have c1 := cR.out.cell 1
          have c2 := cR.out.cell 2
          have cl := cR.out.lt
          simp only [List.getElem?_cons_zero, List.getElem?_cons_succ] at c0 c1 c2
          clear cR
          have gR : Hid (Row x19 (w.heap.size + 1) 32 [.int .i64 4, .int .i64 x, .int .i64 y]) := (rowCells RG.out B_wa.out)
          have g0 := gR.out.cell 0
          have g1 := gR.out.cell 1
          have g2 := gR.out.cell 2
          have gl := gR.out.lt
          simp only [List.getElem?_cons_zero, List.getElem?_cons_succ] at g0 g1 g2
          clear gR
          have zR : Hid (Row x19 (wb.heap.size) 32 [.int .i64 0, .int .i64 0, .int .i64 0]) := (rowCells RZ.out B_wc.out)
          have z0 := zR.out.cell 0
          have z1 := zR.out.cell 1
          have z2 := zR.out.cell 2
          have zl := zR.out.lt
          simp only [List.getElem?_cons_zero, List.getElem?_cons_succ] at z0 z1 z2
          clear zR
          have oR : Hid (Row x19 (wb.heap.size + 1) 32 [.int .i64 1, .int .i64 0, .int .i64 0]) := (rowCells RO.out B_wc.out)
          have o0 := oR.out.cell 0
          have o1 := oR.out.cell 1
          have o2 := oR.out.cell 2
          have ol := oR.out.lt
          simp only [List.getElem?_cons_zero, List.getElem?_cons_succ] at o0 o1 o2
          clear oR
          have rR : Hid (Row x19 (w.heap.size + 1 + 1) 32 [.int .i64 0, .int .i64 0, .int .i64 0]) := (rowCells RR.out B_wa.out)
          have r0 := rR.out.cell 0
          have r1 := rR.out.cell 1
          have r2 := rR.out.cell 2
          have rl := rR.out.lt
          simp only [List.getElem?_cons_zero, List.getElem?_cons_succ] at r0 r1 r2
          clear rR
          have RRf : Hid (Row x19 (w.heap.size + 1 + 1) 32 [.int .i64 0, .int .i64 0, .int .i64 0]) := (rowCells RR.out B_wa.out)
          have rf0 := RRf.out.frozen 0
          have rf1 := RRf.out.frozen 1
          have rf2 := RRf.out.frozen 2
          go_wp2
          have Z9 : Row (World.setCell (World.setCell (World.setCell x19 ⟨(w.heap.size + 1 + 1), 0, none⟩ (.int .i64 4)) ⟨(w.heap.size + 1 + 1), 1, none⟩ (.int .i64 x)) ⟨(w.heap.size + 1 + 1), 2, none⟩ (.int .i64 y)) (w.heap.size + 1 + 1) 32 [.int .i64 4, .int .i64 x, .int .i64 y] := (Row.set (Row.set (Row.set RRf.out 0 (.int .i64 4)) 1 (.int .i64 x)) 2 (.int .i64 y))
          have B9 : Below w.heap.size w (World.setCell (World.setCell (World.setCell x19 ⟨(w.heap.size + 1 + 1), 0, none⟩ (.int .i64 4)) ⟨(w.heap.size + 1 + 1), 1, none⟩ (.int .i64 x)) ⟨(w.heap.size + 1 + 1), 2, none⟩ (.int .i64 y)) := (Below.setCell (Below.setCell (Below.setCell B_w.out (p := ⟨(w.heap.size + 1 + 1), 0, none⟩) (by show _ ≤ (w.heap.size + 1 + 1); omega) (.int .i64 4)) (p := ⟨(w.heap.size + 1 + 1), 1, none⟩) (by show _ ≤ (w.heap.size + 1 + 1); omega) (.int .i64 x)) (p := ⟨(w.heap.size + 1 + 1), 2, none⟩) (by show _ ≤ (w.heap.size + 1 + 1); omega) (.int .i64 y))
          have d0 := Z9.cell 0
          have d1 := Z9.cell 1
          have d2 := Z9.cell 2
          simp only [List.getElem?_cons_zero, List.getElem?_cons_succ] at d0 d1 d2
          clear Z9
          refine bodyPost_ret (v := .tuple #[.agg #[.int .i64 4, .int .i64 x, .int .i64 y], .int .i64 (x)]) (by simp [results, Try.results41, go_sem, d0, d1, d2]) rfl ?_
          have HV := (show eitherF n gs ⟨4, x, y⟩ 1 0 = (⟨4, x, y⟩, x) from by unfold eitherF; simp [HP0.out (), HP1.out (), HP2.out (), HP3.out ()])
          exact ⟨by rw [HV], B9⟩
      · skip
        have cR : Hid (Row x18 (w.heap.size) 25 [.int .i64 n, .slice GA gn gc, .slice OA on oc]) := (rowCells RC.out B_wa.out)
        have c0 := cR.out.cell 0
        have c1 := cR.out.cell 1
        have c2 := cR.out.cell 2
        have cl := cR.out.lt
        simp only [List.getElem?_cons_zero, List.getElem?_cons_succ] at c0 c1 c2
        clear cR
        have gR : Hid (Row x18 (w.heap.size + 1) 32 [.int .i64 4, .int .i64 x, .int .i64 y]) := (rowCells RG.out B_wa.out)
        have g0 := gR.out.cell 0
        have g1 := gR.out.cell 1
        have g2 := gR.out.cell 2
        have gl := gR.out.lt
        simp only [List.getElem?_cons_zero, List.getElem?_cons_succ] at g0 g1 g2
        clear gR
        have zR : Hid (Row x18 (wb.heap.size) 32 [.int .i64 0, .int .i64 0, .int .i64 0]) := (rowCells RZ.out B_wc.out)
        have z0 := zR.out.cell 0
        have z1 := zR.out.cell 1
        have z2 := zR.out.cell 2
        have zl := zR.out.lt
        simp only [List.getElem?_cons_zero, List.getElem?_cons_succ] at z0 z1 z2
        clear zR
        have oR : Hid (Row x18 (wb.heap.size + 1) 32 [.int .i64 1, .int .i64 0, .int .i64 0]) := (rowCells RO.out B_wc.out)
        have o0 := oR.out.cell 0
        have o1 := oR.out.cell 1
        have o2 := oR.out.cell 2
        have ol := oR.out.lt
        simp only [List.getElem?_cons_zero, List.getElem?_cons_succ] at o0 o1 o2
        clear oR
        have rR : Hid (Row x18 (w.heap.size + 1 + 1) 32 [.int .i64 0, .int .i64 0, .int .i64 0]) := (rowCells RR.out B_wa.out)
        have r0 := rR.out.cell 0
        have r1 := rR.out.cell 1
        have r2 := rR.out.cell 2
        have rl := rR.out.lt
        simp only [List.getElem?_cons_zero, List.getElem?_cons_succ] at r0 r1 r2
        clear rR
        have RRf : Hid (Row x18 (w.heap.size + 1 + 1) 32 [.int .i64 0, .int .i64 0, .int .i64 0]) := (rowCells RR.out B_wa.out)
        have rf0 := RRf.out.frozen 0
        have rf1 := RRf.out.frozen 1
        have rf2 := RRf.out.frozen 2
        go_wp2
        have Z9 : Row (World.setCell (World.setCell (World.setCell x18 ⟨(w.heap.size + 1 + 1), 0, none⟩ (.int .i64 4)) ⟨(w.heap.size + 1 + 1), 1, none⟩ (.int .i64 x)) ⟨(w.heap.size + 1 + 1), 2, none⟩ (.int .i64 y)) (w.heap.size + 1 + 1) 32 [.int .i64 4, .int .i64 x, .int .i64 y] := (Row.set (Row.set (Row.set RRf.out 0 (.int .i64 4)) 1 (.int .i64 x)) 2 (.int .i64 y))
        have B9 : Below w.heap.size w (World.setCell (World.setCell (World.setCell x18 ⟨(w.heap.size + 1 + 1), 0, none⟩ (.int .i64 4)) ⟨(w.heap.size + 1 + 1), 1, none⟩ (.int .i64 x)) ⟨(w.heap.size + 1 + 1), 2, none⟩ (.int .i64 y)) := (Below.setCell (Below.setCell (Below.setCell B_w.out (p := ⟨(w.heap.size + 1 + 1), 0, none⟩) (by show _ ≤ (w.heap.size + 1 + 1); omega) (.int .i64 4)) (p := ⟨(w.heap.size + 1 + 1), 1, none⟩) (by show _ ≤ (w.heap.size + 1 + 1); omega) (.int .i64 x)) (p := ⟨(w.heap.size + 1 + 1), 2, none⟩) (by show _ ≤ (w.heap.size + 1 + 1); omega) (.int .i64 y))
        have d0 := Z9.cell 0
        have d1 := Z9.cell 1
        have d2 := Z9.cell 2
        simp only [List.getElem?_cons_zero, List.getElem?_cons_succ] at d0 d1 d2
        clear Z9
        refine bodyPost_ret (v := .tuple #[.agg #[.int .i64 4, .int .i64 x, .int .i64 y], .int .i64 (y)]) (by simp [results, Try.results41, go_sem, d0, d1, d2]) rfl ?_
        have HV := (show eitherF n gs ⟨4, x, y⟩ 1 0 = (⟨4, x, y⟩, y) from by unfold eitherF; simp [HP0.out (), HP1.out (), HP2.out ()])
        exact ⟨by rw [HV], B9⟩
    · skip
      have cR : Hid (Row x17 (w.heap.size) 25 [.int .i64 n, .slice GA gn gc, .slice OA on oc]) := (rowCells RC.out B_wa.out)
      have c0 := cR.out.cell 0
      have c1 := cR.out.cell 1
      have c2 := cR.out.cell 2
      have cl := cR.out.lt
      simp only [List.getElem?_cons_zero, List.getElem?_cons_succ] at c0 c1 c2
      clear cR
      have gR : Hid (Row x17 (w.heap.size + 1) 32 [.int .i64 4, .int .i64 x, .int .i64 y]) := (rowCells RG.out B_wa.out)
      have g0 := gR.out.cell 0
      have g1 := gR.out.cell 1
      have g2 := gR.out.cell 2
      have gl := gR.out.lt
      simp only [List.getElem?_cons_zero, List.getElem?_cons_succ] at g0 g1 g2
      clear gR
      have zR : Hid (Row x17 (wb.heap.size) 32 [.int .i64 0, .int .i64 0, .int .i64 0]) := (rowCells RZ.out B_wc.out)
      have z0 := zR.out.cell 0
      have z1 := zR.out.cell 1
      have z2 := zR.out.cell 2
      have zl := zR.out.lt
      simp only [List.getElem?_cons_zero, List.getElem?_cons_succ] at z0 z1 z2
      clear zR
      have oR : Hid (Row x17 (wb.heap.size + 1) 32 [.int .i64 1, .int .i64 0, .int .i64 0]) := (rowCells RO.out B_wc.out)
      have o0 := oR.out.cell 0
      have o1 := oR.out.cell 1
      have o2 := oR.out.cell 2
      have ol := oR.out.lt
      simp only [List.getElem?_cons_zero, List.getElem?_cons_succ] at o0 o1 o2
      clear oR
      have rR : Hid (Row x17 (w.heap.size + 1 + 1) 32 [.int .i64 0, .int .i64 0, .int .i64 0]) := (rowCells RR.out B_wa.out)
      have r0 := rR.out.cell 0
      have r1 := rR.out.cell 1
      have r2 := rR.out.cell 2
      have rl := rR.out.lt
      simp only [List.getElem?_cons_zero, List.getElem?_cons_succ] at r0 r1 r2
      clear rR
      have RRf : Hid (Row x17 (w.heap.size + 1 + 1) 32 [.int .i64 0, .int .i64 0, .int .i64 0]) := (rowCells RR.out B_wa.out)
      have rf0 := RRf.out.frozen 0
      have rf1 := RRf.out.frozen 1
      have rf2 := RRf.out.frozen 2
      go_wp2
      have Z9 : Row (World.setCell (World.setCell (World.setCell x17 ⟨(w.heap.size + 1 + 1), 0, none⟩ (.int .i64 1)) ⟨(w.heap.size + 1 + 1), 1, none⟩ (.int .i64 0)) ⟨(w.heap.size + 1 + 1), 2, none⟩ (.int .i64 0)) (w.heap.size + 1 + 1) 32 [.int .i64 1, .int .i64 0, .int .i64 0] := (Row.set (Row.set (Row.set RRf.out 0 (.int .i64 1)) 1 (.int .i64 0)) 2 (.int .i64 0))
      have B9 : Below w.heap.size w (World.setCell (World.setCell (World.setCell x17 ⟨(w.heap.size + 1 + 1), 0, none⟩ (.int .i64 1)) ⟨(w.heap.size + 1 + 1), 1, none⟩ (.int .i64 0)) ⟨(w.heap.size + 1 + 1), 2, none⟩ (.int .i64 0)) := (Below.setCell (Below.setCell (Below.setCell B_w.out (p := ⟨(w.heap.size + 1 + 1), 0, none⟩) (by show _ ≤ (w.heap.size + 1 + 1); omega) (.int .i64 1)) (p := ⟨(w.heap.size + 1 + 1), 1, none⟩) (by show _ ≤ (w.heap.size + 1 + 1); omega) (.int .i64 0)) (p := ⟨(w.heap.size + 1 + 1), 2, none⟩) (by show _ ≤ (w.heap.size + 1 + 1); omega) (.int .i64 0))
      have d0 := Z9.cell 0
      have d1 := Z9.cell 1
      have d2 := Z9.cell 2
      simp only [List.getElem?_cons_zero, List.getElem?_cons_succ] at d0 d1 d2
      clear Z9
      refine bodyPost_ret (v := .tuple #[.agg #[.int .i64 1, .int .i64 0, .int .i64 0], .int .i64 (-1)]) (by simp [results, Try.results41, go_sem, d0, d1, d2]) rfl ?_
      have HV := (show eitherF n gs ⟨4, x, y⟩ 1 0 = (⟨1, 0, 0⟩, -1) from by unfold eitherF; simp [HP0.out (), HP1.out ()])
      exact ⟨by rw [HV], B9⟩
  · skip
    have cR : Hid (Row x16 (w.heap.size) 25 [.int .i64 n, .slice GA gn gc, .slice OA on oc]) := (rowCells RC.out B_wa.out)
    have c0 := cR.out.cell 0
    have c1 := cR.out.cell 1
    have c2 := cR.out.cell 2
    have cl := cR.out.lt
    simp only [List.getElem?_cons_zero, List.getElem?_cons_succ] at c0 c1 c2
    clear cR
    have gR : Hid (Row x16 (w.heap.size + 1) 32 [.int .i64 4, .int .i64 x, .int .i64 y]) := (rowCells RG.out B_wa.out)
    have g0 := gR.out.cell 0
    have g1 := gR.out.cell 1
    have g2 := gR.out.cell 2
    have gl := gR.out.lt
    simp only [List.getElem?_cons_zero, List.getElem?_cons_succ] at g0 g1 g2
    clear gR
    have zR : Hid (Row x16 (wb.heap.size) 32 [.int .i64 0, .int .i64 0, .int .i64 0]) := (rowCells RZ.out B_wc.out)
    have z0 := zR.out.cell 0
    have z1 := zR.out.cell 1
    have z2 := zR.out.cell 2
    have zl := zR.out.lt
    simp only [List.getElem?_cons_zero, List.getElem?_cons_succ] at z0 z1 z2
    clear zR
    have oR : Hid (Row x16 (wb.heap.size + 1) 32 [.int .i64 1, .int .i64 0, .int .i64 0]) := (rowCells RO.out B_wc.out)
    have o0 := oR.out.cell 0
    have o1 := oR.out.cell 1
    have o2 := oR.out.cell 2
    have ol := oR.out.lt
    simp only [List.getElem?_cons_zero, List.getElem?_cons_succ] at o0 o1 o2
    clear oR
    have rR : Hid (Row x16 (w.heap.size + 1 + 1) 32 [.int .i64 0, .int .i64 0, .int .i64 0]) := (rowCells RR.out B_wa.out)
    have r0 := rR.out.cell 0
    have r1 := rR.out.cell 1
    have r2 := rR.out.cell 2
    have rl := rR.out.lt
    simp only [List.getElem?_cons_zero, List.getElem?_cons_succ] at r0 r1 r2
    clear rR
    have RRf : Hid (Row x16 (w.heap.size + 1 + 1) 32 [.int .i64 0, .int .i64 0, .int .i64 0]) := (rowCells RR.out B_wa.out)
    have rf0 := RRf.out.frozen 0
    have rf1 := RRf.out.frozen 1
    have rf2 := RRf.out.frozen 2
    go_wp2
    have Z9 : Row (World.setCell (World.setCell (World.setCell x16 ⟨(w.heap.size + 1 + 1), 0, none⟩ (.int .i64 1)) ⟨(w.heap.size + 1 + 1), 1, none⟩ (.int .i64 0)) ⟨(w.heap.size + 1 + 1), 2, none⟩ (.int .i64 0)) (w.heap.size + 1 + 1) 32 [.int .i64 1, .int .i64 0, .int .i64 0] := (Row.set (Row.set (Row.set RRf.out 0 (.int .i64 1)) 1 (.int .i64 0)) 2 (.int .i64 0))
    have B9 : Below w.heap.size w (World.setCell (World.setCell (World.setCell x16 ⟨(w.heap.size + 1 + 1), 0, none⟩ (.int .i64 1)) ⟨(w.heap.size + 1 + 1), 1, none⟩ (.int .i64 0)) ⟨(w.heap.size + 1 + 1), 2, none⟩ (.int .i64 0)) := (Below.setCell (Below.setCell (Below.setCell B_w.out (p := ⟨(w.heap.size + 1 + 1), 0, none⟩) (by show _ ≤ (w.heap.size + 1 + 1); omega) (.int .i64 1)) (p := ⟨(w.heap.size + 1 + 1), 1, none⟩) (by show _ ≤ (w.heap.size + 1 + 1); omega) (.int .i64 0)) (p := ⟨(w.heap.size + 1 + 1), 2, none⟩) (by show _ ≤ (w.heap.size + 1 + 1); omega) (.int .i64 0))
    have d0 := Z9.cell 0
    have d1 := Z9.cell 1
    have d2 := Z9.cell 2
    simp only [List.getElem?_cons_zero, List.getElem?_cons_succ] at d0 d1 d2
    clear Z9
    refine bodyPost_ret (v := .tuple #[.agg #[.int .i64 1, .int .i64 0, .int .i64 0], .int .i64 (-1)]) (by simp [results, Try.results41, go_sem, d0, d1, d2]) rfl ?_
    have HV := (show eitherF n gs ⟨4, x, y⟩ 1 0 = (⟨1, 0, 0⟩, -1) from by unfold eitherF; simp [HP0.out ()])
    exact ⟨by rw [HV], B9⟩
set_option maxRecDepth 100000 in
set_option maxHeartbeats 8000000 in
theorem rGate_any (n : Int) (gs : List Gt) (GA OA : Option Addr) (gn gc on oc : Nat) (g : Gt) (w : World) (hG : Rd w w.heap.size 3 GA gn (gatesCells gs)) (hn : 0 ≤ n ∧ n ≤ 1000) (hg : gn ≤ 20000) (hgo : gateOk (n + (gn : Int)) g = true) :
    Calls Try.prog 41 #[.agg #[.int .i64 n, .slice GA gn gc, .slice OA on oc], .agg #[.int .i64 g.op, .int .i64 g.a, .int .i64 g.b]] w (fun e w' => e = .returned (.tuple #[.agg #[.int .i64 (foldG n gs g).1.op, .int .i64 (foldG n gs g).1.a, .int .i64 (foldG n gs g).1.b], .int .i64 (foldG n gs g).2]) ∧ Below w.heap.size w w') := by
  obtain ⟨hop, ha, hb, ha0, hb0⟩ := gateOk_parts hgo
  obtain ⟨op, x, y⟩ := g
  dsimp only at hop ha hb ha0 hb0 ⊢
  clear hgo
  rcases hop with rfl | rfl | rfl | rfl | rfl | rfl
  · have HG : Hid (Rd w w.heap.size 3 GA gn (gatesCells gs)) := hG
    clear hG ha hb ha0 hb0
    go_enter Try.func41, Try.ntmps41
    go_upto_region 1 with fail
    have RC : Hid (Row (World.alloc (World.alloc (World.alloc w (.cells #[.int .i64 n, .slice GA gn gc, .slice OA on oc] 25)) (.cells #[.int .i64 0, .int .i64 x, .int .i64 y] 32)) (.cells #[.int .i64 0, .int .i64 0, .int .i64 0] 32)) (w.heap.size) 25 [.int .i64 n, .slice GA gn gc, .slice OA on oc]) := by
      have h0 := Row.new w 25 [.int .i64 n, .slice GA gn gc, .slice OA on oc]
      try simp only [World.size_alloc] at h0
      exact ((h0.alloc _).alloc _)
    have RG : Hid (Row (World.alloc (World.alloc (World.alloc w (.cells #[.int .i64 n, .slice GA gn gc, .slice OA on oc] 25)) (.cells #[.int .i64 0, .int .i64 x, .int .i64 y] 32)) (.cells #[.int .i64 0, .int .i64 0, .int .i64 0] 32)) (w.heap.size + 1) 32 [.int .i64 0, .int .i64 x, .int .i64 y]) := by
      have h0 := Row.new (World.alloc w (.cells #[.int .i64 n, .slice GA gn gc, .slice OA on oc] 25)) 32 [.int .i64 0, .int .i64 x, .int .i64 y]
      try simp only [World.size_alloc] at h0
      exact (h0.alloc _)
    have RR : Hid (Row (World.alloc (World.alloc (World.alloc w (.cells #[.int .i64 n, .slice GA gn gc, .slice OA on oc] 25)) (.cells #[.int .i64 0, .int .i64 x, .int .i64 y] 32)) (.cells #[.int .i64 0, .int .i64 0, .int .i64 0] 32)) (w.heap.size + 1 + 1) 32 [.int .i64 0, .int .i64 0, .int .i64 0]) := by
      have h0 := Row.new (World.alloc (World.alloc w (.cells #[.int .i64 n, .slice GA gn gc, .slice OA on oc] 25)) (.cells #[.int .i64 0, .int .i64 x, .int .i64 y] 32)) 32 [.int .i64 0, .int .i64 0, .int .i64 0]
      try simp only [World.size_alloc] at h0
      exact h0
    have hgr9 : Below w.heap.size w (World.alloc (World.alloc (World.alloc w (.cells #[.int .i64 n, .slice GA gn gc, .slice OA on oc] 25)) (.cells #[.int .i64 0, .int .i64 x, .int .i64 y] 32)) (.cells #[.int .i64 0, .int .i64 0, .int .i64 0] 32)) := by go_grown
    have B_w : Hid (Below w.heap.size w (World.alloc (World.alloc (World.alloc w (.cells #[.int .i64 n, .slice GA gn gc, .slice OA on oc] 25)) (.cells #[.int .i64 0, .int .i64 x, .int .i64 y] 32)) (.cells #[.int .i64 0, .int .i64 0, .int .i64 0] 32))) := hgr9
    clear hgr9
    revert RC RG RR B_w
    generalize (World.alloc (World.alloc (World.alloc w (.cells #[.int .i64 n, .slice GA gn gc, .slice OA on oc] 25)) (.cells #[.int .i64 0, .int .i64 x, .int .i64 y] 32)) (.cells #[.int .i64 0, .int .i64 0, .int .i64 0] 32)) = wa
    intro RC RG RR B_w
    have hwa : w.heap.size + 1 + 1 < wa.heap.size := RR.out.lt
    have gR : Hid (Row wa (w.heap.size + 1) 32 [.int .i64 0, .int .i64 x, .int .i64 y]) := RG.out
    have g0 := gR.out.cell 0
    have g1 := gR.out.cell 1
    have g2 := gR.out.cell 2
    have gl := gR.out.lt
    simp only [List.getElem?_cons_zero, List.getElem?_cons_succ] at g0 g1 g2
    clear gR
    go_quiet (fail)
    have B_w : Hid (Below w.heap.size w (wa.drewN nq)) := below_drewN B_w.out nq
    have B_wa : Hid (Below wa.heap.size wa (wa.drewN nq)) := below_drewN (Below.refl _ _) nq
    clear g0 g1 g2 gl
    revert B_w B_wa
    generalize (wa.drewN nq) = wb
    intro B_w B_wa
    go_upto_region 3 with fail
    have RZ : Hid (Row (World.alloc (World.alloc wb (.cells #[.int .i64 0, .int .i64 0, .int .i64 0] 32)) (.cells #[.int .i64 1, .int .i64 0, .int .i64 0] 32)) (wb.heap.size) 32 [.int .i64 0, .int .i64 0, .int .i64 0]) := by
      have h0 := Row.new wb 32 [.int .i64 0, .int .i64 0, .int .i64 0]
      try simp only [World.size_alloc] at h0
      exact (h0.alloc _)
    have RO : Hid (Row (World.alloc (World.alloc wb (.cells #[.int .i64 0, .int .i64 0, .int .i64 0] 32)) (.cells #[.int .i64 1, .int .i64 0, .int .i64 0] 32)) (wb.heap.size + 1) 32 [.int .i64 1, .int .i64 0, .int .i64 0]) := by
      have h0 := Row.new (World.alloc wb (.cells #[.int .i64 0, .int .i64 0, .int .i64 0] 32)) 32 [.int .i64 1, .int .i64 0, .int .i64 0]
      try simp only [World.size_alloc] at h0
      exact h0
    have hgr9 : Below wb.heap.size wb (World.alloc (World.alloc wb (.cells #[.int .i64 0, .int .i64 0, .int .i64 0] 32)) (.cells #[.int .i64 1, .int .i64 0, .int .i64 0] 32)) := by go_grown
    have B_w : Hid (Below w.heap.size w (World.alloc (World.alloc wb (.cells #[.int .i64 0, .int .i64 0, .int .i64 0] 32)) (.cells #[.int .i64 1, .int .i64 0, .int .i64 0] 32))) := below_on2 B_w.out hgr9
    have B_wa : Hid (Below wa.heap.size wa (World.alloc (World.alloc wb (.cells #[.int .i64 0, .int .i64 0, .int .i64 0] 32)) (.cells #[.int .i64 1, .int .i64 0, .int .i64 0] 32))) := below_on2 B_wa.out hgr9
    have B_wb : Hid (Below wb.heap.size wb (World.alloc (World.alloc wb (.cells #[.int .i64 0, .int .i64 0, .int .i64 0] 32)) (.cells #[.int .i64 1, .int .i64 0, .int .i64 0] 32))) := hgr9
    clear hgr9
    revert RZ RO B_w B_wa B_wb
    generalize (World.alloc (World.alloc wb (.cells #[.int .i64 0, .int .i64 0, .int .i64 0] 32)) (.cells #[.int .i64 1, .int .i64 0, .int .i64 0] 32)) = wc
    intro RZ RO B_w B_wa B_wb
    have cR : Hid (Row wc (w.heap.size) 25 [.int .i64 n, .slice GA gn gc, .slice OA on oc]) := (rowCells RC.out B_wa.out)
    have c0 := cR.out.cell 0
    have c1 := cR.out.cell 1
    have c2 := cR.out.cell 2
    have cl := cR.out.lt
    simp only [List.getElem?_cons_zero, List.getElem?_cons_succ] at c0 c1 c2
    clear cR
    have gR : Hid (Row wc (w.heap.size + 1) 32 [.int .i64 0, .int .i64 x, .int .i64 y]) := (rowCells RG.out B_wa.out)
    have g0 := gR.out.cell 0
    have g1 := gR.out.cell 1
    have g2 := gR.out.cell 2
    have gl := gR.out.lt
    simp only [List.getElem?_cons_zero, List.getElem?_cons_succ] at g0 g1 g2
    clear gR
    have zR : Hid (Row wc (wb.heap.size) 32 [.int .i64 0, .int .i64 0, .int .i64 0]) := RZ.out
    have z0 := zR.out.cell 0
    have z1 := zR.out.cell 1
    have z2 := zR.out.cell 2
    have zl := zR.out.lt
    simp only [List.getElem?_cons_zero, List.getElem?_cons_succ] at z0 z1 z2
    clear zR
    have oR : Hid (Row wc (wb.heap.size + 1) 32 [.int .i64 1, .int .i64 0, .int .i64 0]) := RO.out
    have o0 := oR.out.cell 0
    have o1 := oR.out.cell 1
    have o2 := oR.out.cell 2
    have ol := oR.out.lt
    simp only [List.getElem?_cons_zero, List.getElem?_cons_succ] at o0 o1 o2
    clear oR
    have rR : Hid (Row wc (w.heap.size + 1 + 1) 32 [.int .i64 0, .int .i64 0, .int .i64 0]) := (rowCells RR.out B_wa.out)
    have r0 := rR.out.cell 0
    have r1 := rR.out.cell 1
    have r2 := rR.out.cell 2
    have rl := rR.out.lt
    simp only [List.getElem?_cons_zero, List.getElem?_cons_succ] at r0 r1 r2
    clear rR
    have RRf : Hid (Row wc (w.heap.size + 1 + 1) 32 [.int .i64 0, .int .i64 0, .int .i64 0]) := (rowCells RR.out B_wa.out)
    have rf0 := RRf.out.frozen 0
    have rf1 := RRf.out.frozen 1
    have rf2 := RRf.out.frozen 2
    go_wp2
    have Z9 : Row (World.setCell (World.setCell (World.setCell wc ⟨(w.heap.size + 1 + 1), 0, none⟩ (.int .i64 0)) ⟨(w.heap.size + 1 + 1), 1, none⟩ (.int .i64 x)) ⟨(w.heap.size + 1 + 1), 2, none⟩ (.int .i64 y)) (w.heap.size + 1 + 1) 32 [.int .i64 0, .int .i64 x, .int .i64 y] := (Row.set (Row.set (Row.set RRf.out 0 (.int .i64 0)) 1 (.int .i64 x)) 2 (.int .i64 y))
    have B9 : Below w.heap.size w (World.setCell (World.setCell (World.setCell wc ⟨(w.heap.size + 1 + 1), 0, none⟩ (.int .i64 0)) ⟨(w.heap.size + 1 + 1), 1, none⟩ (.int .i64 x)) ⟨(w.heap.size + 1 + 1), 2, none⟩ (.int .i64 y)) := (Below.setCell (Below.setCell (Below.setCell B_w.out (p := ⟨(w.heap.size + 1 + 1), 0, none⟩) (by show _ ≤ (w.heap.size + 1 + 1); omega) (.int .i64 0)) (p := ⟨(w.heap.size + 1 + 1), 1, none⟩) (by show _ ≤ (w.heap.size + 1 + 1); omega) (.int .i64 x)) (p := ⟨(w.heap.size + 1 + 1), 2, none⟩) (by show _ ≤ (w.heap.size + 1 + 1); omega) (.int .i64 y))
    have d0 := Z9.cell 0
    have d1 := Z9.cell 1
    have d2 := Z9.cell 2
    simp only [List.getElem?_cons_zero, List.getElem?_cons_succ] at d0 d1 d2
    clear Z9
    refine bodyPost_ret (v := .tuple #[.agg #[.int .i64 0, .int .i64 x, .int .i64 y], .int .i64 (-1)]) (by simp [results, Try.results41, go_sem, d0, d1, d2]) rfl ?_
    have HV := (show foldG n gs ⟨0, x, y⟩ = (⟨0, x, y⟩, -1) from rfl)
    exact ⟨by rw [HV], B9⟩
  · have HG : Hid (Rd w w.heap.size 3 GA gn (gatesCells gs)) := hG
    clear hG ha hb ha0 hb0
    go_enter Try.func41, Try.ntmps41
    go_upto_region 1 with fail
    have RC : Hid (Row (World.alloc (World.alloc (World.alloc w (.cells #[.int .i64 n, .slice GA gn gc, .slice OA on oc] 25)) (.cells #[.int .i64 1, .int .i64 x, .int .i64 y] 32)) (.cells #[.int .i64 0, .int .i64 0, .int .i64 0] 32)) (w.heap.size) 25 [.int .i64 n, .slice GA gn gc, .slice OA on oc]) := by
      have h0 := Row.new w 25 [.int .i64 n, .slice GA gn gc, .slice OA on oc]
      try simp only [World.size_alloc] at h0
      exact ((h0.alloc _).alloc _)
    have RG : Hid (Row (World.alloc (World.alloc (World.alloc w (.cells #[.int .i64 n, .slice GA gn gc, .slice OA on oc] 25)) (.cells #[.int .i64 1, .int .i64 x, .int .i64 y] 32)) (.cells #[.int .i64 0, .int .i64 0, .int .i64 0] 32)) (w.heap.size + 1) 32 [.int .i64 1, .int .i64 x, .int .i64 y]) := by
      have h0 := Row.new (World.alloc w (.cells #[.int .i64 n, .slice GA gn gc, .slice OA on oc] 25)) 32 [.int .i64 1, .int .i64 x, .int .i64 y]
      try simp only [World.size_alloc] at h0
      exact (h0.alloc _)
    have RR : Hid (Row (World.alloc (World.alloc (World.alloc w (.cells #[.int .i64 n, .slice GA gn gc, .slice OA on oc] 25)) (.cells #[.int .i64 1, .int .i64 x, .int .i64 y] 32)) (.cells #[.int .i64 0, .int .i64 0, .int .i64 0] 32)) (w.heap.size + 1 + 1) 32 [.int .i64 0, .int .i64 0, .int .i64 0]) := by
      have h0 := Row.new (World.alloc (World.alloc w (.cells #[.int .i64 n, .slice GA gn gc, .slice OA on oc] 25)) (.cells #[.int .i64 1, .int .i64 x, .int .i64 y] 32)) 32 [.int .i64 0, .int .i64 0, .int .i64 0]
      try simp only [World.size_alloc] at h0
      exact h0
    have hgr9 : Below w.heap.size w (World.alloc (World.alloc (World.alloc w (.cells #[.int .i64 n, .slice GA gn gc, .slice OA on oc] 25)) (.cells #[.int .i64 1, .int .i64 x, .int .i64 y] 32)) (.cells #[.int .i64 0, .int .i64 0, .int .i64 0] 32)) := by go_grown
    have B_w : Hid (Below w.heap.size w (World.alloc (World.alloc (World.alloc w (.cells #[.int .i64 n, .slice GA gn gc, .slice OA on oc] 25)) (.cells #[.int .i64 1, .int .i64 x, .int .i64 y] 32)) (.cells #[.int .i64 0, .int .i64 0, .int .i64 0] 32))) := hgr9
    clear hgr9
    revert RC RG RR B_w
    generalize (World.alloc (World.alloc (World.alloc w (.cells #[.int .i64 n, .slice GA gn gc, .slice OA on oc] 25)) (.cells #[.int .i64 1, .int .i64 x, .int .i64 y] 32)) (.cells #[.int .i64 0, .int .i64 0, .int .i64 0] 32)) = wa
    intro RC RG RR B_w
    have hwa : w.heap.size + 1 + 1 < wa.heap.size := RR.out.lt
    have gR : Hid (Row wa (w.heap.size + 1) 32 [.int .i64 1, .int .i64 x, .int .i64 y]) := RG.out
    have g0 := gR.out.cell 0
    have g1 := gR.out.cell 1
    have g2 := gR.out.cell 2
    have gl := gR.out.lt
    simp only [List.getElem?_cons_zero, List.getElem?_cons_succ] at g0 g1 g2
    clear gR
    go_quiet (fail)
    have B_w : Hid (Below w.heap.size w (wa.drewN nq)) := below_drewN B_w.out nq
    have B_wa : Hid (Below wa.heap.size wa (wa.drewN nq)) := below_drewN (Below.refl _ _) nq
    clear g0 g1 g2 gl
    revert B_w B_wa
    generalize (wa.drewN nq) = wb
    intro B_w B_wa
    go_upto_region 3 with fail
    have RZ : Hid (Row (World.alloc (World.alloc wb (.cells #[.int .i64 0, .int .i64 0, .int .i64 0] 32)) (.cells #[.int .i64 1, .int .i64 0, .int .i64 0] 32)) (wb.heap.size) 32 [.int .i64 0, .int .i64 0, .int .i64 0]) := by
      have h0 := Row.new wb 32 [.int .i64 0, .int .i64 0, .int .i64 0]
      try simp only [World.size_alloc] at h0
      exact (h0.alloc _)
    have RO : Hid (Row (World.alloc (World.alloc wb (.cells #[.int .i64 0, .int .i64 0, .int .i64 0] 32)) (.cells #[.int .i64 1, .int .i64 0, .int .i64 0] 32)) (wb.heap.size + 1) 32 [.int .i64 1, .int .i64 0, .int .i64 0]) := by
      have h0 := Row.new (World.alloc wb (.cells #[.int .i64 0, .int .i64 0, .int .i64 0] 32)) 32 [.int .i64 1, .int .i64 0, .int .i64 0]
      try simp only [World.size_alloc] at h0
      exact h0
    have hgr9 : Below wb.heap.size wb (World.alloc (World.alloc wb (.cells #[.int .i64 0, .int .i64 0, .int .i64 0] 32)) (.cells #[.int .i64 1, .int .i64 0, .int .i64 0] 32)) := by go_grown
    have B_w : Hid (Below w.heap.size w (World.alloc (World.alloc wb (.cells #[.int .i64 0, .int .i64 0, .int .i64 0] 32)) (.cells #[.int .i64 1, .int .i64 0, .int .i64 0] 32))) := below_on2 B_w.out hgr9
    have B_wa : Hid (Below wa.heap.size wa (World.alloc (World.alloc wb (.cells #[.int .i64 0, .int .i64 0, .int .i64 0] 32)) (.cells #[.int .i64 1, .int .i64 0, .int .i64 0] 32))) := below_on2 B_wa.out hgr9
    have B_wb : Hid (Below wb.heap.size wb (World.alloc (World.alloc wb (.cells #[.int .i64 0, .int .i64 0, .int .i64 0] 32)) (.cells #[.int .i64 1, .int .i64 0, .int .i64 0] 32))) := hgr9
    clear hgr9
    revert RZ RO B_w B_wa B_wb
    generalize (World.alloc (World.alloc wb (.cells #[.int .i64 0, .int .i64 0, .int .i64 0] 32)) (.cells #[.int .i64 1, .int .i64 0, .int .i64 0] 32)) = wc
    intro RZ RO B_w B_wa B_wb
    have cR : Hid (Row wc (w.heap.size) 25 [.int .i64 n, .slice GA gn gc, .slice OA on oc]) := (rowCells RC.out B_wa.out)
    have c0 := cR.out.cell 0
    have c1 := cR.out.cell 1
    have c2 := cR.out.cell 2
    have cl := cR.out.lt
    simp only [List.getElem?_cons_zero, List.getElem?_cons_succ] at c0 c1 c2
    clear cR
    have gR : Hid (Row wc (w.heap.size + 1) 32 [.int .i64 1, .int .i64 x, .int .i64 y]) := (rowCells RG.out B_wa.out)
    have g0 := gR.out.cell 0
    have g1 := gR.out.cell 1
    have g2 := gR.out.cell 2
    have gl := gR.out.lt
    simp only [List.getElem?_cons_zero, List.getElem?_cons_succ] at g0 g1 g2
    clear gR
    have zR : Hid (Row wc (wb.heap.size) 32 [.int .i64 0, .int .i64 0, .int .i64 0]) := RZ.out
    have z0 := zR.out.cell 0
    have z1 := zR.out.cell 1
    have z2 := zR.out.cell 2
    have zl := zR.out.lt
    simp only [List.getElem?_cons_zero, List.getElem?_cons_succ] at z0 z1 z2
    clear zR
    have oR : Hid (Row wc (wb.heap.size + 1) 32 [.int .i64 1, .int .i64 0, .int .i64 0]) := RO.out
    have o0 := oR.out.cell 0
    have o1 := oR.out.cell 1
    have o2 := oR.out.cell 2
    have ol := oR.out.lt
    simp only [List.getElem?_cons_zero, List.getElem?_cons_succ] at o0 o1 o2
    clear oR
    have rR : Hid (Row wc (w.heap.size + 1 + 1) 32 [.int .i64 0, .int .i64 0, .int .i64 0]) := (rowCells RR.out B_wa.out)
    have r0 := rR.out.cell 0
    have r1 := rR.out.cell 1
    have r2 := rR.out.cell 2
    have rl := rR.out.lt
    simp only [List.getElem?_cons_zero, List.getElem?_cons_succ] at r0 r1 r2
    clear rR
    have RRf : Hid (Row wc (w.heap.size + 1 + 1) 32 [.int .i64 0, .int .i64 0, .int .i64 0]) := (rowCells RR.out B_wa.out)
    have rf0 := RRf.out.frozen 0
    have rf1 := RRf.out.frozen 1
    have rf2 := RRf.out.frozen 2
    go_wp2
    have Z9 : Row (World.setCell (World.setCell (World.setCell wc ⟨(w.heap.size + 1 + 1), 0, none⟩ (.int .i64 1)) ⟨(w.heap.size + 1 + 1), 1, none⟩ (.int .i64 x)) ⟨(w.heap.size + 1 + 1), 2, none⟩ (.int .i64 y)) (w.heap.size + 1 + 1) 32 [.int .i64 1, .int .i64 x, .int .i64 y] := (Row.set (Row.set (Row.set RRf.out 0 (.int .i64 1)) 1 (.int .i64 x)) 2 (.int .i64 y))
    have B9 : Below w.heap.size w (World.setCell (World.setCell (World.setCell wc ⟨(w.heap.size + 1 + 1), 0, none⟩ (.int .i64 1)) ⟨(w.heap.size + 1 + 1), 1, none⟩ (.int .i64 x)) ⟨(w.heap.size + 1 + 1), 2, none⟩ (.int .i64 y)) := (Below.setCell (Below.setCell (Below.setCell B_w.out (p := ⟨(w.heap.size + 1 + 1), 0, none⟩) (by show _ ≤ (w.heap.size + 1 + 1); omega) (.int .i64 1)) (p := ⟨(w.heap.size + 1 + 1), 1, none⟩) (by show _ ≤ (w.heap.size + 1 + 1); omega) (.int .i64 x)) (p := ⟨(w.heap.size + 1 + 1), 2, none⟩) (by show _ ≤ (w.heap.size + 1 + 1); omega) (.int .i64 y))
    have d0 := Z9.cell 0
    have d1 := Z9.cell 1
    have d2 := Z9.cell 2
    simp only [List.getElem?_cons_zero, List.getElem?_cons_succ] at d0 d1 d2
    clear Z9
    refine bodyPost_ret (v := .tuple #[.agg #[.int .i64 1, .int .i64 x, .int .i64 y], .int .i64 (-1)]) (by simp [results, Try.results41, go_sem, d0, d1, d2]) rfl ?_
    have HV := (show foldG n gs ⟨1, x, y⟩ = (⟨1, x, y⟩, -1) from rfl)
    exact ⟨by rw [HV], B9⟩
  · have hy := hb0 (by omega)
    subst hy
    exact rNot_any n gs GA OA gn gc on oc x w hG hn hg (ha (by omega))
  · exact rAnd_any n gs GA OA gn gc on oc x y w hG hn hg (ha (by omega)) (hb (by omega))
  · exact rOr_any n gs GA OA gn gc on oc x y w hG hn hg (ha (by omega)) (hb (by omega))
  · have HG : Hid (Rd w w.heap.size 3 GA gn (gatesCells gs)) := hG
    have HBx : Hid (0 ≤ x ∧ x < n + (gn : Int)) := ha (by omega)
    have HBy : Hid (0 ≤ y ∧ y < n + (gn : Int)) := hb (by omega)
    clear hG ha hb ha0 hb0
    go_enter Try.func41, Try.ntmps41
    go_upto_region 1 with fail
    have RC : Hid (Row (World.alloc (World.alloc (World.alloc w (.cells #[.int .i64 n, .slice GA gn gc, .slice OA on oc] 25)) (.cells #[.int .i64 5, .int .i64 x, .int .i64 y] 32)) (.cells #[.int .i64 0, .int .i64 0, .int .i64 0] 32)) (w.heap.size) 25 [.int .i64 n, .slice GA gn gc, .slice OA on oc]) := by
      have h0 := Row.new w 25 [.int .i64 n, .slice GA gn gc, .slice OA on oc]
      try simp only [World.size_alloc] at h0
      exact ((h0.alloc _).alloc _)
    have RG : Hid (Row (World.alloc (World.alloc (World.alloc w (.cells #[.int .i64 n, .slice GA gn gc, .slice OA on oc] 25)) (.cells #[.int .i64 5, .int .i64 x, .int .i64 y] 32)) (.cells #[.int .i64 0, .int .i64 0, .int .i64 0] 32)) (w.heap.size + 1) 32 [.int .i64 5, .int .i64 x, .int .i64 y]) := by
      have h0 := Row.new (World.alloc w (.cells #[.int .i64 n, .slice GA gn gc, .slice OA on oc] 25)) 32 [.int .i64 5, .int .i64 x, .int .i64 y]
      try simp only [World.size_alloc] at h0
      exact (h0.alloc _)
    have RR : Hid (Row (World.alloc (World.alloc (World.alloc w (.cells #[.int .i64 n, .slice GA gn gc, .slice OA on oc] 25)) (.cells #[.int .i64 5, .int .i64 x, .int .i64 y] 32)) (.cells #[.int .i64 0, .int .i64 0, .int .i64 0] 32)) (w.heap.size + 1 + 1) 32 [.int .i64 0, .int .i64 0, .int .i64 0]) := by
      have h0 := Row.new (World.alloc (World.alloc w (.cells #[.int .i64 n, .slice GA gn gc, .slice OA on oc] 25)) (.cells #[.int .i64 5, .int .i64 x, .int .i64 y] 32)) 32 [.int .i64 0, .int .i64 0, .int .i64 0]
      try simp only [World.size_alloc] at h0
      exact h0
    have hgr9 : Below w.heap.size w (World.alloc (World.alloc (World.alloc w (.cells #[.int .i64 n, .slice GA gn gc, .slice OA on oc] 25)) (.cells #[.int .i64 5, .int .i64 x, .int .i64 y] 32)) (.cells #[.int .i64 0, .int .i64 0, .int .i64 0] 32)) := by go_grown
    have B_w : Hid (Below w.heap.size w (World.alloc (World.alloc (World.alloc w (.cells #[.int .i64 n, .slice GA gn gc, .slice OA on oc] 25)) (.cells #[.int .i64 5, .int .i64 x, .int .i64 y] 32)) (.cells #[.int .i64 0, .int .i64 0, .int .i64 0] 32))) := hgr9
    clear hgr9
    revert RC RG RR B_w
    generalize (World.alloc (World.alloc (World.alloc w (.cells #[.int .i64 n, .slice GA gn gc, .slice OA on oc] 25)) (.cells #[.int .i64 5, .int .i64 x, .int .i64 y] 32)) (.cells #[.int .i64 0, .int .i64 0, .int .i64 0] 32)) = wa
    intro RC RG RR B_w
    have hwa : w.heap.size + 1 + 1 < wa.heap.size := RR.out.lt
    have gR : Hid (Row wa (w.heap.size + 1) 32 [.int .i64 5, .int .i64 x, .int .i64 y]) := RG.out
    have g0 := gR.out.cell 0
    have g1 := gR.out.cell 1
    have g2 := gR.out.cell 2
    have gl := gR.out.lt
    simp only [List.getElem?_cons_zero, List.getElem?_cons_succ] at g0 g1 g2
    clear gR
    go_quiet (fail)
    have B_w : Hid (Below w.heap.size w (wa.drewN nq)) := below_drewN B_w.out nq
    have B_wa : Hid (Below wa.heap.size wa (wa.drewN nq)) := below_drewN (Below.refl _ _) nq
    clear g0 g1 g2 gl
    revert B_w B_wa
    generalize (wa.drewN nq) = wb
    intro B_w B_wa
    go_upto_region 3 with fail
    have RZ : Hid (Row (World.alloc (World.alloc wb (.cells #[.int .i64 0, .int .i64 0, .int .i64 0] 32)) (.cells #[.int .i64 1, .int .i64 0, .int .i64 0] 32)) (wb.heap.size) 32 [.int .i64 0, .int .i64 0, .int .i64 0]) := by
      have h0 := Row.new wb 32 [.int .i64 0, .int .i64 0, .int .i64 0]
      try simp only [World.size_alloc] at h0
      exact (h0.alloc _)
    have RO : Hid (Row (World.alloc (World.alloc wb (.cells #[.int .i64 0, .int .i64 0, .int .i64 0] 32)) (.cells #[.int .i64 1, .int .i64 0, .int .i64 0] 32)) (wb.heap.size + 1) 32 [.int .i64 1, .int .i64 0, .int .i64 0]) := by
      have h0 := Row.new (World.alloc wb (.cells #[.int .i64 0, .int .i64 0, .int .i64 0] 32)) 32 [.int .i64 1, .int .i64 0, .int .i64 0]
      try simp only [World.size_alloc] at h0
      exact h0
    have hgr9 : Below wb.heap.size wb (World.alloc (World.alloc wb (.cells #[.int .i64 0, .int .i64 0, .int .i64 0] 32)) (.cells #[.int .i64 1, .int .i64 0, .int .i64 0] 32)) := by go_grown
    have B_w : Hid (Below w.heap.size w (World.alloc (World.alloc wb (.cells #[.int .i64 0, .int .i64 0, .int .i64 0] 32)) (.cells #[.int .i64 1, .int .i64 0, .int .i64 0] 32))) := below_on2 B_w.out hgr9
    have B_wa : Hid (Below wa.heap.size wa (World.alloc (World.alloc wb (.cells #[.int .i64 0, .int .i64 0, .int .i64 0] 32)) (.cells #[.int .i64 1, .int .i64 0, .int .i64 0] 32))) := below_on2 B_wa.out hgr9
    have B_wb : Hid (Below wb.heap.size wb (World.alloc (World.alloc wb (.cells #[.int .i64 0, .int .i64 0, .int .i64 0] 32)) (.cells #[.int .i64 1, .int .i64 0, .int .i64 0] 32))) := hgr9
    clear hgr9
    revert RZ RO B_w B_wa B_wb
    generalize (World.alloc (World.alloc wb (.cells #[.int .i64 0, .int .i64 0, .int .i64 0] 32)) (.cells #[.int .i64 1, .int .i64 0, .int .i64 0] 32)) = wc
    intro RZ RO B_w B_wa B_wb
    obtain ⟨p, hp⟩ : ∃ p, xorF n gs ⟨5, x, y⟩ = p := ⟨_, rfl⟩
    have HP : Hid (∀ _ : Unit, xorF n gs ⟨5, x, y⟩ = p) := fun _ => hp
    clear hp
    obtain ⟨⟨po, pa, pb⟩, pz⟩ := p
    have cR : Hid (Row wc (w.heap.size) 25 [.int .i64 n, .slice GA gn gc, .slice OA on oc]) := (rowCells RC.out B_wa.out)
    have c0 := cR.out.cell 0
    have c1 := cR.out.cell 1
    have c2 := cR.out.cell 2
    have cl := cR.out.lt
    simp only [List.getElem?_cons_zero, List.getElem?_cons_succ] at c0 c1 c2
    clear cR
    have gR : Hid (Row wc (w.heap.size + 1) 32 [.int .i64 5, .int .i64 x, .int .i64 y]) := (rowCells RG.out B_wa.out)
    have g0 := gR.out.cell 0
    have g1 := gR.out.cell 1
    have g2 := gR.out.cell 2
    have gl := gR.out.lt
    simp only [List.getElem?_cons_zero, List.getElem?_cons_succ] at g0 g1 g2
    clear gR
    have zR : Hid (Row wc (wb.heap.size) 32 [.int .i64 0, .int .i64 0, .int .i64 0]) := RZ.out
    have z0 := zR.out.cell 0
    have z1 := zR.out.cell 1
    have z2 := zR.out.cell 2
    have zl := zR.out.lt
    simp only [List.getElem?_cons_zero, List.getElem?_cons_succ] at z0 z1 z2
    clear zR
    have oR : Hid (Row wc (wb.heap.size + 1) 32 [.int .i64 1, .int .i64 0, .int .i64 0]) := RO.out
    have o0 := oR.out.cell 0
    have o1 := oR.out.cell 1
    have o2 := oR.out.cell 2
    have ol := oR.out.lt
    simp only [List.getElem?_cons_zero, List.getElem?_cons_succ] at o0 o1 o2
    clear oR
    go_wp2_with fail
    have HC := rXor_any n gs GA OA gn gc on oc x y wc ((HG.out.up B_w.out)) hn hg HBx.out HBy.out
    rw [HP.out ()] at HC
    refine HC.mono ?_
    clear HC
    rintro e w9 ⟨rfl, hb⟩
    have B_w : Hid (Below w.heap.size w w9) := below_on2 B_w.out hb
    have B_wa : Hid (Below wa.heap.size wa w9) := below_on2 B_wa.out hb
    have B_wb : Hid (Below wb.heap.size wb w9) := below_on2 B_wb.out hb
    have B_wc : Hid (Below wc.heap.size wc w9) := hb
    clear c0 c1 c2 cl g0 g1 g2 gl z0 z1 z2 zl o0 o1 o2 ol
    clear hb
    have cR : Hid (Row w9 (w.heap.size) 25 [.int .i64 n, .slice GA gn gc, .slice OA on oc]) := (rowCells RC.out B_wa.out)
    have c0 := cR.out.cell 0
    have c1 := cR.out.cell 1
    have c2 := cR.out.cell 2
    have cl := cR.out.lt
    simp only [List.getElem?_cons_zero, List.getElem?_cons_succ] at c0 c1 c2
    clear cR
    have gR : Hid (Row w9 (w.heap.size + 1) 32 [.int .i64 5, .int .i64 x, .int .i64 y]) := (rowCells RG.out B_wa.out)
    have g0 := gR.out.cell 0
    have g1 := gR.out.cell 1
    have g2 := gR.out.cell 2
    have gl := gR.out.lt
    simp only [List.getElem?_cons_zero, List.getElem?_cons_succ] at g0 g1 g2
    clear gR
    have zR : Hid (Row w9 (wb.heap.size) 32 [.int .i64 0, .int .i64 0, .int .i64 0]) := (rowCells RZ.out B_wc.out)
    have z0 := zR.out.cell 0
    have z1 := zR.out.cell 1
    have z2 := zR.out.cell 2
    have zl := zR.out.lt
    simp only [List.getElem?_cons_zero, List.getElem?_cons_succ] at z0 z1 z2
    clear zR
    have oR : Hid (Row w9 (wb.heap.size + 1) 32 [.int .i64 1, .int .i64 0, .int .i64 0]) := (rowCells RO.out B_wc.out)
    have o0 := oR.out.cell 0
    have o1 := oR.out.cell 1
    have o2 := oR.out.cell 2
    have ol := oR.out.lt
    simp only [List.getElem?_cons_zero, List.getElem?_cons_succ] at o0 o1 o2
    clear oR
    have rR : Hid (Row w9 (w.heap.size + 1 + 1) 32 [.int .i64 0, .int .i64 0, .int .i64 0]) := (rowCells RR.out B_wa.out)
    have r0 := rR.out.cell 0
    have r1 := rR.out.cell 1
    have r2 := rR.out.cell 2
    have rl := rR.out.lt
    simp only [List.getElem?_cons_zero, List.getElem?_cons_succ] at r0 r1 r2
    clear rR
    have RRf : Hid (Row w9 (w.heap.size + 1 + 1) 32 [.int .i64 0, .int .i64 0, .int .i64 0]) := (rowCells RR.out B_wa.out)
    have rf0 := RRf.out.frozen 0
    have rf1 := RRf.out.frozen 1
    have rf2 := RRf.out.frozen 2
    go_wp2
    have Z9 : Row (World.setCell (World.setCell (World.setCell w9 ⟨(w.heap.size + 1 + 1), 0, none⟩ (.int .i64 po)) ⟨(w.heap.size + 1 + 1), 1, none⟩ (.int .i64 pa)) ⟨(w.heap.size + 1 + 1), 2, none⟩ (.int .i64 pb)) (w.heap.size + 1 + 1) 32 [.int .i64 po, .int .i64 pa, .int .i64 pb] := (Row.set (Row.set (Row.set RRf.out 0 (.int .i64 po)) 1 (.int .i64 pa)) 2 (.int .i64 pb))
    have B9 : Below w.heap.size w (World.setCell (World.setCell (World.setCell w9 ⟨(w.heap.size + 1 + 1), 0, none⟩ (.int .i64 po)) ⟨(w.heap.size + 1 + 1), 1, none⟩ (.int .i64 pa)) ⟨(w.heap.size + 1 + 1), 2, none⟩ (.int .i64 pb)) := (Below.setCell (Below.setCell (Below.setCell B_w.out (p := ⟨(w.heap.size + 1 + 1), 0, none⟩) (by show _ ≤ (w.heap.size + 1 + 1); omega) (.int .i64 po)) (p := ⟨(w.heap.size + 1 + 1), 1, none⟩) (by show _ ≤ (w.heap.size + 1 + 1); omega) (.int .i64 pa)) (p := ⟨(w.heap.size + 1 + 1), 2, none⟩) (by show _ ≤ (w.heap.size + 1 + 1); omega) (.int .i64 pb))
    have d0 := Z9.cell 0
    have d1 := Z9.cell 1
    have d2 := Z9.cell 2
    simp only [List.getElem?_cons_zero, List.getElem?_cons_succ] at d0 d1 d2
    clear Z9
    refine bodyPost_ret (v := .tuple #[.agg #[.int .i64 po, .int .i64 pa, .int .i64 pb], .int .i64 (pz)]) (by simp [results, Try.results41, go_sem, d0, d1, d2]) rfl ?_
    have HV := (show foldG n gs ⟨5, x, y⟩ = (⟨po, pa, pb⟩, pz) from (show foldG n gs ⟨5, x, y⟩ = xorF n gs ⟨5, x, y⟩ from rfl).trans (HP.out ()))
    exact ⟨by rw [HV], B9⟩
end Go.Proofs.Ytamijjpnklbgnaa
