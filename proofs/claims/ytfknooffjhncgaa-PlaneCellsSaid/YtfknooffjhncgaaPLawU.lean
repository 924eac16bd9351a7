/-
  The law PlaneTorus: what it does.
-/
import Derived.Test.YtfknooffjhncgaaPAwake
import Derived.Test.YtfknooffjhncgaaPFew
namespace Go.Proofs.Ytfknooffjhncgaa
open Go.RowKit
set_option linter.unusedSimpArgs false
set_option linter.unusedVariables false
theorem moveR_ok {p : Pln} (h : rightPl p = true) {dx dy : Int} (h1 : -256 ≤ dx ∧ dx ≤ 256) (h2 : -256 ≤ dy ∧ dy ≤ 256) : moveR p dx dy = moveP p dx dy ∧ moveErr p dx dy = 0 := by
  have ho : offOk dx dy = true := decide_eq_true ⟨h1, h2⟩
  have he : moveErr p dx dy = 0 := by unfold moveErr; rw [if_pos ⟨h, ho⟩]
  exact ⟨by unfold moveR; rw [if_pos he], he⟩
set_option maxRecDepth 100000 in
set_option maxHeartbeats 8000000 in
theorem lawTorus_any (p : Pln) (A : Option Addr) (n c : Nat) (sl : List Sl) (a0 a1 b0 b1 : Int) (w : World) (h : PAt w p A n sl) (ha0 : -128 ≤ a0 ∧ a0 ≤ 127) (ha1 : -128 ≤ a1 ∧ a1 ≤ 127) (hb0 : -128 ≤ b0 ∧ b0 ≤ 127) (hb1 : -128 ≤ b1 ∧ b1 ≤ 127) :
    Calls Try.prog 7 #[.agg #[.int .i64 p.w, .int .i64 p.h, .int .i64 p.edge, .slice A n c], .agg #[.int .i8 a0, .int .i8 a1], .agg #[.int .i8 b0, .int .i8 b1]] w fun e w' => e = .returned (.bool true) ∧ Below w.heap.size w w' := by
  have H : Hid (PAt w p A n sl) := h
  obtain ⟨a01, a02⟩ := ha0
  obtain ⟨a11, a12⟩ := ha1
  obtain ⟨b01', b02⟩ := hb0
  obtain ⟨b11, b12⟩ := hb1
  clear h
  go_enter Try.func7, Try.ntmps7
  go_wp2_with fail
  have RP : Hid (Row (World.alloc (World.alloc (World.alloc w (.cells #[.int .i64 p.w, .int .i64 p.h, .int .i64 p.edge, .slice A n c] 28)) (.cells #[.int .i8 a0, .int .i8 a1] 44)) (.cells #[.int .i8 b0, .int .i8 b1] 44)) (w.heap.size) 28 [.int .i64 p.w, .int .i64 p.h, .int .i64 p.edge, .slice A n c]) := by
    have h0 := Row.new w 28 [.int .i64 p.w, .int .i64 p.h, .int .i64 p.edge, .slice A n c]
    try simp only [World.size_alloc] at h0
    exact ((h0.alloc _).alloc _)
  have RA : Hid (Row (World.alloc (World.alloc (World.alloc w (.cells #[.int .i64 p.w, .int .i64 p.h, .int .i64 p.edge, .slice A n c] 28)) (.cells #[.int .i8 a0, .int .i8 a1] 44)) (.cells #[.int .i8 b0, .int .i8 b1] 44)) (w.heap.size + 1) 44 [.int .i8 a0, .int .i8 a1]) := by
    have h0 := Row.new (World.alloc w (.cells #[.int .i64 p.w, .int .i64 p.h, .int .i64 p.edge, .slice A n c] 28)) 44 [.int .i8 a0, .int .i8 a1]
    try simp only [World.size_alloc] at h0
    exact (h0.alloc _)
  have RB : Hid (Row (World.alloc (World.alloc (World.alloc w (.cells #[.int .i64 p.w, .int .i64 p.h, .int .i64 p.edge, .slice A n c] 28)) (.cells #[.int .i8 a0, .int .i8 a1] 44)) (.cells #[.int .i8 b0, .int .i8 b1] 44)) (w.heap.size + 1 + 1) 44 [.int .i8 b0, .int .i8 b1]) := by
    have h0 := Row.new (World.alloc (World.alloc w (.cells #[.int .i64 p.w, .int .i64 p.h, .int .i64 p.edge, .slice A n c] 28)) (.cells #[.int .i8 a0, .int .i8 a1] 44)) 44 [.int .i8 b0, .int .i8 b1]
    try simp only [World.size_alloc] at h0
    exact h0
  have hgr9 : Below w.heap.size w (World.alloc (World.alloc (World.alloc w (.cells #[.int .i64 p.w, .int .i64 p.h, .int .i64 p.edge, .slice A n c] 28)) (.cells #[.int .i8 a0, .int .i8 a1] 44)) (.cells #[.int .i8 b0, .int .i8 b1] 44)) := by go_grown
  have B_w : Hid (Below w.heap.size w (World.alloc (World.alloc (World.alloc w (.cells #[.int .i64 p.w, .int .i64 p.h, .int .i64 p.edge, .slice A n c] 28)) (.cells #[.int .i8 a0, .int .i8 a1] 44)) (.cells #[.int .i8 b0, .int .i8 b1] 44))) := hgr9
  clear hgr9
  revert RP RA RB B_w
  generalize (World.alloc (World.alloc (World.alloc w (.cells #[.int .i64 p.w, .int .i64 p.h, .int .i64 p.edge, .slice A n c] 28)) (.cells #[.int .i8 a0, .int .i8 a1] 44)) (.cells #[.int .i8 b0, .int .i8 b1] 44)) = wa
  intro RP RA RB B_w
  refine (few_any p A n c sl wa (H.out.up B_w.out)).mono ?_
  rintro e w0 ⟨rfl, hb⟩
  have B_w : Hid (Below w.heap.size w w0) := below_on2 B_w.out hb
  have B_wa : Hid (Below wa.heap.size wa w0) := hb
  clear hb
  cases hf : fewF p
  · clear hf
    go_wp2_with fail
    refine (awake_any _).mono ?_
    rintro e w9 ⟨rfl, hb⟩
    have HBE : Hid (Below w.heap.size w w9) := below_on2 B_w.out hb
    clear hb
    go_wp2
    go_ret
    exact ⟨rfl, HBE.out⟩
  clear hf
  have kR : Hid (Row w0 (w.heap.size) 28 [.int .i64 p.w, .int .i64 p.h, .int .i64 p.edge, .slice A n c]) := (rowCells RP.out B_wa.out)
  have k0 := kR.out.cell 0
  have k1 := kR.out.cell 1
  have k2 := kR.out.cell 2
  have k3 := kR.out.cell 3
  have kl := kR.out.lt
  simp only [List.getElem?_cons_zero, List.getElem?_cons_succ] at k0 k1 k2 k3
  clear kR
  go_wp2_with fail
  refine (rPlRight_any p A n c sl w0 (H.out.up B_w.out)).mono ?_
  rintro e w1 ⟨rfl, hb⟩
  have B_w : Hid (Below w.heap.size w w1) := below_on2 B_w.out hb
  have B_wa : Hid (Below wa.heap.size wa w1) := below_on2 B_wa.out hb
  have B_w0 : Hid (Below w0.heap.size w0 w1) := hb
  clear k0 k1 k2 k3 kl
  clear hb
  cases hr : rightPl p
  · clear hr
    go_wp2_with fail
    refine (awake_any _).mono ?_
    rintro e w9 ⟨rfl, hb⟩
    have HBE : Hid (Below w.heap.size w w9) := below_on2 B_w.out hb
    clear hb
    go_wp2
    go_ret
    exact ⟨rfl, HBE.out⟩
  by_cases he : p.edge = 1
  · obtain ⟨hsz, _, _⟩ := rightPl_parts hr
    obtain ⟨q1, q2, _⟩ := sizedF_parts hsz
    have HX : Hid (moveR p a0 a1 = moveP p a0 a1 ∧ moveErr p a0 a1 = 0) := moveR_ok hr (by omega) (by omega)
    have HY : Hid (moveR (moveP p a0 a1) b0 b1 = moveP p (a0 + b0) (a1 + b1) ∧ moveErr (moveP p a0 a1) b0 b1 = 0) := by
      have h9 := moveR_ok (move_right hr a0 a1) (dx := b0) (dy := b1) (by omega) (by omega)
      exact ⟨h9.1.trans (move_add hr he a0 a1 b0 b1), h9.2⟩
    have HZ : Hid (moveR p (a0 + b0) (a1 + b1) = moveP p (a0 + b0) (a1 + b1) ∧ moveErr p (a0 + b0) (a1 + b1) = 0) := moveR_ok hr (by omega) (by omega)
    have HW : Hid (moveR p p.w 0 = p ∧ moveErr p p.w 0 = 0) := by
      have h9 := moveR_ok hr (dx := p.w) (dy := 0) (by omega) (by omega)
      exact ⟨h9.1.trans (move_round hr he).1, h9.2⟩
    have HV : Hid (moveR p 0 p.h = p ∧ moveErr p 0 p.h = 0) := by
      have h9 := moveR_ok hr (dx := 0) (dy := p.h) (by omega) (by omega)
      exact ⟨h9.1.trans (move_round hr he).2, h9.2⟩
    have hne : (p.edge != 1) = false := by rw [he]; rfl
    clear hr he hsz q1 q2
    generalize moveP p a0 a1 = X at HX HY
    generalize moveP p (a0 + b0) (a1 + b1) = Y at HY HZ
    have kR : Hid (Row w1 (w.heap.size) 28 [.int .i64 p.w, .int .i64 p.h, .int .i64 p.edge, .slice A n c]) := (rowCells RP.out B_wa.out)
    have k0 := kR.out.cell 0
    have k1 := kR.out.cell 1
    have k2 := kR.out.cell 2
    have k3 := kR.out.cell 3
    have kl := kR.out.lt
    simp only [List.getElem?_cons_zero, List.getElem?_cons_succ] at k0 k1 k2 k3
    clear kR
    have rR : Hid (Row w1 (w.heap.size + 1) 44 [.int .i8 a0, .int .i8 a1]) := (rowCells RA.out B_wa.out)
    have r0 := rR.out.cell 0
    have r1 := rR.out.cell 1
    have rl := rR.out.lt
    simp only [List.getElem?_cons_zero, List.getElem?_cons_succ] at r0 r1
    clear rR
    go_wp2_with fail
    have HC := plMove_any p A n c sl (a0) (a1) w1 (H.out.up B_w.out)
    rw [HX.out.1, HX.out.2] at HC
    refine HC.mono ?_
    clear HC
    rintro e w2 h1
    obtain ⟨XA, xn, xc, sx, rfl, hpa, hb⟩ := ppost_at h1
    have HXA : Hid (PAt w2 X XA xn sx) := hpa
    clear hpa h1
    have B_w : Hid (Below w.heap.size w w2) := below_on2 B_w.out hb
    have B_wa : Hid (Below wa.heap.size wa w2) := below_on2 B_wa.out hb
    have B_w0 : Hid (Below w0.heap.size w0 w2) := below_on2 B_w0.out hb
    have B_w1 : Hid (Below w1.heap.size w1 w2) := hb
    clear k0 k1 k2 k3 kl r0 r1 rl
    clear hb
    have kR : Hid (Row w2 (w.heap.size + 1 + 1) 44 [.int .i8 b0, .int .i8 b1]) := (rowCells RB.out B_wa.out)
    have k0 := kR.out.cell 0
    have k1 := kR.out.cell 1
    have kl := kR.out.lt
    simp only [List.getElem?_cons_zero, List.getElem?_cons_succ] at k0 k1
    clear kR
    go_wp2_with fail
    have RX : Hid (Row (World.alloc w2 (.cells #[.int .i64 X.w, .int .i64 X.h, .int .i64 X.edge, .slice XA xn xc] 28)) (w2.heap.size) 28 [.int .i64 X.w, .int .i64 X.h, .int .i64 X.edge, .slice XA xn xc]) := by
      have h0 := Row.new w2 28 [.int .i64 X.w, .int .i64 X.h, .int .i64 X.edge, .slice XA xn xc]
      try simp only [World.size_alloc] at h0
      exact h0
    have hgr9 : Below w2.heap.size w2 (World.alloc w2 (.cells #[.int .i64 X.w, .int .i64 X.h, .int .i64 X.edge, .slice XA xn xc] 28)) := by go_grown
    have B_w : Hid (Below w.heap.size w (World.alloc w2 (.cells #[.int .i64 X.w, .int .i64 X.h, .int .i64 X.edge, .slice XA xn xc] 28))) := below_on2 B_w.out hgr9
    have B_wa : Hid (Below wa.heap.size wa (World.alloc w2 (.cells #[.int .i64 X.w, .int .i64 X.h, .int .i64 X.edge, .slice XA xn xc] 28))) := below_on2 B_wa.out hgr9
    have B_w0 : Hid (Below w0.heap.size w0 (World.alloc w2 (.cells #[.int .i64 X.w, .int .i64 X.h, .int .i64 X.edge, .slice XA xn xc] 28))) := below_on2 B_w0.out hgr9
    have B_w1 : Hid (Below w1.heap.size w1 (World.alloc w2 (.cells #[.int .i64 X.w, .int .i64 X.h, .int .i64 X.edge, .slice XA xn xc] 28))) := below_on2 B_w1.out hgr9
    have B_w2 : Hid (Below w2.heap.size w2 (World.alloc w2 (.cells #[.int .i64 X.w, .int .i64 X.h, .int .i64 X.edge, .slice XA xn xc] 28))) := hgr9
    clear hgr9
    clear k0 k1 kl
    revert RX B_w B_wa B_w0 B_w1 B_w2
    generalize (World.alloc w2 (.cells #[.int .i64 X.w, .int .i64 X.h, .int .i64 X.edge, .slice XA xn xc] 28)) = wb
    intro RX B_w B_wa B_w0 B_w1 B_w2
    have HC := plMove_any X XA xn xc sx (b0) (b1) wb (HXA.out.up B_w2.out)
    rw [HY.out.1, HY.out.2] at HC
    refine HC.mono ?_
    clear HC
    rintro e w3 h1
    obtain ⟨YA, yn, yc, sy, rfl, hpa, hb⟩ := ppost_at h1
    have HYA : Hid (PAt w3 Y YA yn sy) := hpa
    clear hpa h1
    have B_w : Hid (Below w.heap.size w w3) := below_on2 B_w.out hb
    have B_wa : Hid (Below wa.heap.size wa w3) := below_on2 B_wa.out hb
    have B_w0 : Hid (Below w0.heap.size w0 w3) := below_on2 B_w0.out hb
    have B_w1 : Hid (Below w1.heap.size w1 w3) := below_on2 B_w1.out hb
    have B_w2 : Hid (Below w2.heap.size w2 w3) := below_on2 B_w2.out hb
    have B_wb : Hid (Below wb.heap.size wb w3) := hb
    clear hb
    have kR : Hid (Row w3 (w.heap.size) 28 [.int .i64 p.w, .int .i64 p.h, .int .i64 p.edge, .slice A n c]) := (rowCells RP.out B_wa.out)
    have k0 := kR.out.cell 0
    have k1 := kR.out.cell 1
    have k2 := kR.out.cell 2
    have k3 := kR.out.cell 3
    have kl := kR.out.lt
    simp only [List.getElem?_cons_zero, List.getElem?_cons_succ] at k0 k1 k2 k3
    clear kR
    have rR : Hid (Row w3 (w.heap.size + 1) 44 [.int .i8 a0, .int .i8 a1]) := (rowCells RA.out B_wa.out)
    have r0 := rR.out.cell 0
    have r1 := rR.out.cell 1
    have rl := rR.out.lt
    simp only [List.getElem?_cons_zero, List.getElem?_cons_succ] at r0 r1
    clear rR
    have sR : Hid (Row w3 (w.heap.size + 1 + 1) 44 [.int .i8 b0, .int .i8 b1]) := (rowCells RB.out B_wa.out)
    have s0 := sR.out.cell 0
    have s1 := sR.out.cell 1
    have sl := sR.out.lt
    simp only [List.getElem?_cons_zero, List.getElem?_cons_succ] at s0 s1
    clear sR
    go_wp2_with fail
    have RY : Hid (Row (World.alloc w3 (.cells #[.int .i64 Y.w, .int .i64 Y.h, .int .i64 Y.edge, .slice YA yn yc] 28)) (w3.heap.size) 28 [.int .i64 Y.w, .int .i64 Y.h, .int .i64 Y.edge, .slice YA yn yc]) := by
      have h0 := Row.new w3 28 [.int .i64 Y.w, .int .i64 Y.h, .int .i64 Y.edge, .slice YA yn yc]
      try simp only [World.size_alloc] at h0
      exact h0
    have hgr9 : Below w3.heap.size w3 (World.alloc w3 (.cells #[.int .i64 Y.w, .int .i64 Y.h, .int .i64 Y.edge, .slice YA yn yc] 28)) := by go_grown
    have B_w : Hid (Below w.heap.size w (World.alloc w3 (.cells #[.int .i64 Y.w, .int .i64 Y.h, .int .i64 Y.edge, .slice YA yn yc] 28))) := below_on2 B_w.out hgr9
    have B_wa : Hid (Below wa.heap.size wa (World.alloc w3 (.cells #[.int .i64 Y.w, .int .i64 Y.h, .int .i64 Y.edge, .slice YA yn yc] 28))) := below_on2 B_wa.out hgr9
    have B_w0 : Hid (Below w0.heap.size w0 (World.alloc w3 (.cells #[.int .i64 Y.w, .int .i64 Y.h, .int .i64 Y.edge, .slice YA yn yc] 28))) := below_on2 B_w0.out hgr9
    have B_w1 : Hid (Below w1.heap.size w1 (World.alloc w3 (.cells #[.int .i64 Y.w, .int .i64 Y.h, .int .i64 Y.edge, .slice YA yn yc] 28))) := below_on2 B_w1.out hgr9
    have B_w2 : Hid (Below w2.heap.size w2 (World.alloc w3 (.cells #[.int .i64 Y.w, .int .i64 Y.h, .int .i64 Y.edge, .slice YA yn yc] 28))) := below_on2 B_w2.out hgr9
    have B_wb : Hid (Below wb.heap.size wb (World.alloc w3 (.cells #[.int .i64 Y.w, .int .i64 Y.h, .int .i64 Y.edge, .slice YA yn yc] 28))) := below_on2 B_wb.out hgr9
    have B_w3 : Hid (Below w3.heap.size w3 (World.alloc w3 (.cells #[.int .i64 Y.w, .int .i64 Y.h, .int .i64 Y.edge, .slice YA yn yc] 28))) := hgr9
    clear hgr9
    clear k0 k1 k2 k3 kl r0 r1 rl s0 s1 sl
    revert RY B_w B_wa B_w0 B_w1 B_w2 B_wb B_w3
    generalize (World.alloc w3 (.cells #[.int .i64 Y.w, .int .i64 Y.h, .int .i64 Y.edge, .slice YA yn yc] 28)) = wc
    intro RY B_w B_wa B_w0 B_w1 B_w2 B_wb B_w3
    have HC := plMove_any p A n c sl (a0 + b0) (a1 + b1) wc (H.out.up B_w.out)
    rw [HZ.out.1, HZ.out.2] at HC
    refine HC.mono ?_
    clear HC
    rintro e w4 h1
    obtain ⟨ZA, zn, zc, sz, rfl, hpa, hb⟩ := ppost_at h1
    have HZA : Hid (PAt w4 Y ZA zn sz) := hpa
    clear hpa h1
    have B_w : Hid (Below w.heap.size w w4) := below_on2 B_w.out hb
    have B_wa : Hid (Below wa.heap.size wa w4) := below_on2 B_wa.out hb
    have B_w0 : Hid (Below w0.heap.size w0 w4) := below_on2 B_w0.out hb
    have B_w1 : Hid (Below w1.heap.size w1 w4) := below_on2 B_w1.out hb
    have B_w2 : Hid (Below w2.heap.size w2 w4) := below_on2 B_w2.out hb
    have B_wb : Hid (Below wb.heap.size wb w4) := below_on2 B_wb.out hb
    have B_w3 : Hid (Below w3.heap.size w3 w4) := below_on2 B_w3.out hb
    have B_wc : Hid (Below wc.heap.size wc w4) := hb
    clear hb
    have kR : Hid (Row w4 (w.heap.size) 28 [.int .i64 p.w, .int .i64 p.h, .int .i64 p.edge, .slice A n c]) := (rowCells RP.out B_wa.out)
    have k0 := kR.out.cell 0
    have k1 := kR.out.cell 1
    have k2 := kR.out.cell 2
    have k3 := kR.out.cell 3
    have kl := kR.out.lt
    simp only [List.getElem?_cons_zero, List.getElem?_cons_succ] at k0 k1 k2 k3
    clear kR
    go_wp2_with fail
    have RZ : Hid (Row (World.alloc w4 (.cells #[.int .i64 Y.w, .int .i64 Y.h, .int .i64 Y.edge, .slice ZA zn zc] 28)) (w4.heap.size) 28 [.int .i64 Y.w, .int .i64 Y.h, .int .i64 Y.edge, .slice ZA zn zc]) := by
      have h0 := Row.new w4 28 [.int .i64 Y.w, .int .i64 Y.h, .int .i64 Y.edge, .slice ZA zn zc]
      try simp only [World.size_alloc] at h0
      exact h0
    have hgr9 : Below w4.heap.size w4 (World.alloc w4 (.cells #[.int .i64 Y.w, .int .i64 Y.h, .int .i64 Y.edge, .slice ZA zn zc] 28)) := by go_grown
    have B_w : Hid (Below w.heap.size w (World.alloc w4 (.cells #[.int .i64 Y.w, .int .i64 Y.h, .int .i64 Y.edge, .slice ZA zn zc] 28))) := below_on2 B_w.out hgr9
    have B_wa : Hid (Below wa.heap.size wa (World.alloc w4 (.cells #[.int .i64 Y.w, .int .i64 Y.h, .int .i64 Y.edge, .slice ZA zn zc] 28))) := below_on2 B_wa.out hgr9
    have B_w0 : Hid (Below w0.heap.size w0 (World.alloc w4 (.cells #[.int .i64 Y.w, .int .i64 Y.h, .int .i64 Y.edge, .slice ZA zn zc] 28))) := below_on2 B_w0.out hgr9
    have B_w1 : Hid (Below w1.heap.size w1 (World.alloc w4 (.cells #[.int .i64 Y.w, .int .i64 Y.h, .int .i64 Y.edge, .slice ZA zn zc] 28))) := below_on2 B_w1.out hgr9
    have B_w2 : Hid (Below w2.heap.size w2 (World.alloc w4 (.cells #[.int .i64 Y.w, .int .i64 Y.h, .int .i64 Y.edge, .slice ZA zn zc] 28))) := below_on2 B_w2.out hgr9
    have B_wb : Hid (Below wb.heap.size wb (World.alloc w4 (.cells #[.int .i64 Y.w, .int .i64 Y.h, .int .i64 Y.edge, .slice ZA zn zc] 28))) := below_on2 B_wb.out hgr9
    have B_w3 : Hid (Below w3.heap.size w3 (World.alloc w4 (.cells #[.int .i64 Y.w, .int .i64 Y.h, .int .i64 Y.edge, .slice ZA zn zc] 28))) := below_on2 B_w3.out hgr9
    have B_wc : Hid (Below wc.heap.size wc (World.alloc w4 (.cells #[.int .i64 Y.w, .int .i64 Y.h, .int .i64 Y.edge, .slice ZA zn zc] 28))) := below_on2 B_wc.out hgr9
    have B_w4 : Hid (Below w4.heap.size w4 (World.alloc w4 (.cells #[.int .i64 Y.w, .int .i64 Y.h, .int .i64 Y.edge, .slice ZA zn zc] 28))) := hgr9
    clear hgr9
    clear k0 k1 k2 k3 kl
    revert RZ B_w B_wa B_w0 B_w1 B_w2 B_wb B_w3 B_wc B_w4
    generalize (World.alloc w4 (.cells #[.int .i64 Y.w, .int .i64 Y.h, .int .i64 Y.edge, .slice ZA zn zc] 28)) = wd
    intro RZ B_w B_wa B_w0 B_w1 B_w2 B_wb B_w3 B_wc B_w4
    have HC := plMove_any p A n c sl (p.w) (0) wd (H.out.up B_w.out)
    rw [HW.out.1, HW.out.2] at HC
    refine HC.mono ?_
    clear HC
    rintro e w5 h1
    obtain ⟨WA, wn, wcp, sw, rfl, hpa, hb⟩ := ppost_at h1
    have HWA : Hid (PAt w5 p WA wn sw) := hpa
    clear hpa h1
    have B_w : Hid (Below w.heap.size w w5) := below_on2 B_w.out hb
    have B_wa : Hid (Below wa.heap.size wa w5) := below_on2 B_wa.out hb
    have B_w0 : Hid (Below w0.heap.size w0 w5) := below_on2 B_w0.out hb
    have B_w1 : Hid (Below w1.heap.size w1 w5) := below_on2 B_w1.out hb
    have B_w2 : Hid (Below w2.heap.size w2 w5) := below_on2 B_w2.out hb
    have B_wb : Hid (Below wb.heap.size wb w5) := below_on2 B_wb.out hb
    have B_w3 : Hid (Below w3.heap.size w3 w5) := below_on2 B_w3.out hb
    have B_wc : Hid (Below wc.heap.size wc w5) := below_on2 B_wc.out hb
    have B_w4 : Hid (Below w4.heap.size w4 w5) := below_on2 B_w4.out hb
    have B_wd : Hid (Below wd.heap.size wd w5) := hb
    clear hb
    have kR : Hid (Row w5 (w.heap.size) 28 [.int .i64 p.w, .int .i64 p.h, .int .i64 p.edge, .slice A n c]) := (rowCells RP.out B_wa.out)
    have k0 := kR.out.cell 0
    have k1 := kR.out.cell 1
    have k2 := kR.out.cell 2
    have k3 := kR.out.cell 3
    have kl := kR.out.lt
    simp only [List.getElem?_cons_zero, List.getElem?_cons_succ] at k0 k1 k2 k3
    clear kR
    go_wp2_with fail
    have RW : Hid (Row (World.alloc w5 (.cells #[.int .i64 p.w, .int .i64 p.h, .int .i64 p.edge, .slice WA wn wcp] 28)) (w5.heap.size) 28 [.int .i64 p.w, .int .i64 p.h, .int .i64 p.edge, .slice WA wn wcp]) := by
      have h0 := Row.new w5 28 [.int .i64 p.w, .int .i64 p.h, .int .i64 p.edge, .slice WA wn wcp]
      try simp only [World.size_alloc] at h0
      exact h0
    have hgr9 : Below w5.heap.size w5 (World.alloc w5 (.cells #[.int .i64 p.w, .int .i64 p.h, .int .i64 p.edge, .slice WA wn wcp] 28)) := by go_grown
    have B_w : Hid (Below w.heap.size w (World.alloc w5 (.cells #[.int .i64 p.w, .int .i64 p.h, .int .i64 p.edge, .slice WA wn wcp] 28))) := below_on2 B_w.out hgr9
    have B_wa : Hid (Below wa.heap.size wa (World.alloc w5 (.cells #[.int .i64 p.w, .int .i64 p.h, .int .i64 p.edge, .slice WA wn wcp] 28))) := below_on2 B_wa.out hgr9
    have B_w0 : Hid (Below w0.heap.size w0 (World.alloc w5 (.cells #[.int .i64 p.w, .int .i64 p.h, .int .i64 p.edge, .slice WA wn wcp] 28))) := below_on2 B_w0.out hgr9
    have B_w1 : Hid (Below w1.heap.size w1 (World.alloc w5 (.cells #[.int .i64 p.w, .int .i64 p.h, .int .i64 p.edge, .slice WA wn wcp] 28))) := below_on2 B_w1.out hgr9
    have B_w2 : Hid (Below w2.heap.size w2 (World.alloc w5 (.cells #[.int .i64 p.w, .int .i64 p.h, .int .i64 p.edge, .slice WA wn wcp] 28))) := below_on2 B_w2.out hgr9
    have B_wb : Hid (Below wb.heap.size wb (World.alloc w5 (.cells #[.int .i64 p.w, .int .i64 p.h, .int .i64 p.edge, .slice WA wn wcp] 28))) := below_on2 B_wb.out hgr9
    have B_w3 : Hid (Below w3.heap.size w3 (World.alloc w5 (.cells #[.int .i64 p.w, .int .i64 p.h, .int .i64 p.edge, .slice WA wn wcp] 28))) := below_on2 B_w3.out hgr9
    have B_wc : Hid (Below wc.heap.size wc (World.alloc w5 (.cells #[.int .i64 p.w, .int .i64 p.h, .int .i64 p.edge, .slice WA wn wcp] 28))) := below_on2 B_wc.out hgr9
    have B_w4 : Hid (Below w4.heap.size w4 (World.alloc w5 (.cells #[.int .i64 p.w, .int .i64 p.h, .int .i64 p.edge, .slice WA wn wcp] 28))) := below_on2 B_w4.out hgr9
    have B_wd : Hid (Below wd.heap.size wd (World.alloc w5 (.cells #[.int .i64 p.w, .int .i64 p.h, .int .i64 p.edge, .slice WA wn wcp] 28))) := below_on2 B_wd.out hgr9
    have B_w5 : Hid (Below w5.heap.size w5 (World.alloc w5 (.cells #[.int .i64 p.w, .int .i64 p.h, .int .i64 p.edge, .slice WA wn wcp] 28))) := hgr9
    clear hgr9
    clear k0 k1 k2 k3 kl
    revert RW B_w B_wa B_w0 B_w1 B_w2 B_wb B_w3 B_wc B_w4 B_wd B_w5
    generalize (World.alloc w5 (.cells #[.int .i64 p.w, .int .i64 p.h, .int .i64 p.edge, .slice WA wn wcp] 28)) = we
    intro RW B_w B_wa B_w0 B_w1 B_w2 B_wb B_w3 B_wc B_w4 B_wd B_w5
    have HC := plMove_any p A n c sl (0) (p.h) we (H.out.up B_w.out)
    rw [HV.out.1, HV.out.2] at HC
    refine HC.mono ?_
    clear HC
    rintro e w6 h1
    obtain ⟨VA, vn, vc, sv, rfl, hpa, hb⟩ := ppost_at h1
    have HVA : Hid (PAt w6 p VA vn sv) := hpa
    clear hpa h1
    have B_w : Hid (Below w.heap.size w w6) := below_on2 B_w.out hb
    have B_wa : Hid (Below wa.heap.size wa w6) := below_on2 B_wa.out hb
    have B_w0 : Hid (Below w0.heap.size w0 w6) := below_on2 B_w0.out hb
    have B_w1 : Hid (Below w1.heap.size w1 w6) := below_on2 B_w1.out hb
    have B_w2 : Hid (Below w2.heap.size w2 w6) := below_on2 B_w2.out hb
    have B_wb : Hid (Below wb.heap.size wb w6) := below_on2 B_wb.out hb
    have B_w3 : Hid (Below w3.heap.size w3 w6) := below_on2 B_w3.out hb
    have B_wc : Hid (Below wc.heap.size wc w6) := below_on2 B_wc.out hb
    have B_w4 : Hid (Below w4.heap.size w4 w6) := below_on2 B_w4.out hb
    have B_wd : Hid (Below wd.heap.size wd w6) := below_on2 B_wd.out hb
    have B_w5 : Hid (Below w5.heap.size w5 w6) := below_on2 B_w5.out hb
    have B_we : Hid (Below we.heap.size we w6) := hb
    clear hb
    have kR : Hid (Row w6 (w3.heap.size) 28 [.int .i64 Y.w, .int .i64 Y.h, .int .i64 Y.edge, .slice YA yn yc]) := (rowCells RY.out B_wc.out)
    have k0 := kR.out.cell 0
    have k1 := kR.out.cell 1
    have k2 := kR.out.cell 2
    have k3 := kR.out.cell 3
    have kl := kR.out.lt
    simp only [List.getElem?_cons_zero, List.getElem?_cons_succ] at k0 k1 k2 k3
    clear kR
    have rR : Hid (Row w6 (w4.heap.size) 28 [.int .i64 Y.w, .int .i64 Y.h, .int .i64 Y.edge, .slice ZA zn zc]) := (rowCells RZ.out B_wd.out)
    have r0 := rR.out.cell 0
    have r1 := rR.out.cell 1
    have r2 := rR.out.cell 2
    have r3 := rR.out.cell 3
    have rl := rR.out.lt
    simp only [List.getElem?_cons_zero, List.getElem?_cons_succ] at r0 r1 r2 r3
    clear rR
    go_wp2_with fail
    have RV : Hid (Row (World.alloc w6 (.cells #[.int .i64 p.w, .int .i64 p.h, .int .i64 p.edge, .slice VA vn vc] 28)) (w6.heap.size) 28 [.int .i64 p.w, .int .i64 p.h, .int .i64 p.edge, .slice VA vn vc]) := by
      have h0 := Row.new w6 28 [.int .i64 p.w, .int .i64 p.h, .int .i64 p.edge, .slice VA vn vc]
      try simp only [World.size_alloc] at h0
      exact h0
    have hgr9 : Below w6.heap.size w6 (World.alloc w6 (.cells #[.int .i64 p.w, .int .i64 p.h, .int .i64 p.edge, .slice VA vn vc] 28)) := by go_grown
    have B_w : Hid (Below w.heap.size w (World.alloc w6 (.cells #[.int .i64 p.w, .int .i64 p.h, .int .i64 p.edge, .slice VA vn vc] 28))) := below_on2 B_w.out hgr9
    have B_wa : Hid (Below wa.heap.size wa (World.alloc w6 (.cells #[.int .i64 p.w, .int .i64 p.h, .int .i64 p.edge, .slice VA vn vc] 28))) := below_on2 B_wa.out hgr9
    have B_w0 : Hid (Below w0.heap.size w0 (World.alloc w6 (.cells #[.int .i64 p.w, .int .i64 p.h, .int .i64 p.edge, .slice VA vn vc] 28))) := below_on2 B_w0.out hgr9
    have B_w1 : Hid (Below w1.heap.size w1 (World.alloc w6 (.cells #[.int .i64 p.w, .int .i64 p.h, .int .i64 p.edge, .slice VA vn vc] 28))) := below_on2 B_w1.out hgr9
    have B_w2 : Hid (Below w2.heap.size w2 (World.alloc w6 (.cells #[.int .i64 p.w, .int .i64 p.h, .int .i64 p.edge, .slice VA vn vc] 28))) := below_on2 B_w2.out hgr9
    have B_wb : Hid (Below wb.heap.size wb (World.alloc w6 (.cells #[.int .i64 p.w, .int .i64 p.h, .int .i64 p.edge, .slice VA vn vc] 28))) := below_on2 B_wb.out hgr9
    have B_w3 : Hid (Below w3.heap.size w3 (World.alloc w6 (.cells #[.int .i64 p.w, .int .i64 p.h, .int .i64 p.edge, .slice VA vn vc] 28))) := below_on2 B_w3.out hgr9
    have B_wc : Hid (Below wc.heap.size wc (World.alloc w6 (.cells #[.int .i64 p.w, .int .i64 p.h, .int .i64 p.edge, .slice VA vn vc] 28))) := below_on2 B_wc.out hgr9
    have B_w4 : Hid (Below w4.heap.size w4 (World.alloc w6 (.cells #[.int .i64 p.w, .int .i64 p.h, .int .i64 p.edge, .slice VA vn vc] 28))) := below_on2 B_w4.out hgr9
    have B_wd : Hid (Below wd.heap.size wd (World.alloc w6 (.cells #[.int .i64 p.w, .int .i64 p.h, .int .i64 p.edge, .slice VA vn vc] 28))) := below_on2 B_wd.out hgr9
    have B_w5 : Hid (Below w5.heap.size w5 (World.alloc w6 (.cells #[.int .i64 p.w, .int .i64 p.h, .int .i64 p.edge, .slice VA vn vc] 28))) := below_on2 B_w5.out hgr9
    have B_we : Hid (Below we.heap.size we (World.alloc w6 (.cells #[.int .i64 p.w, .int .i64 p.h, .int .i64 p.edge, .slice VA vn vc] 28))) := below_on2 B_we.out hgr9
    have B_w6 : Hid (Below w6.heap.size w6 (World.alloc w6 (.cells #[.int .i64 p.w, .int .i64 p.h, .int .i64 p.edge, .slice VA vn vc] 28))) := hgr9
    clear hgr9
    clear k0 k1 k2 k3 kl r0 r1 r2 r3 rl
    revert RV B_w B_wa B_w0 B_w1 B_w2 B_wb B_w3 B_wc B_w4 B_wd B_w5 B_we B_w6
    generalize (World.alloc w6 (.cells #[.int .i64 p.w, .int .i64 p.h, .int .i64 p.edge, .slice VA vn vc] 28)) = wf
    intro RV B_w B_wa B_w0 B_w1 B_w2 B_wb B_w3 B_wc B_w4 B_wd B_w5 B_we B_w6
    have HC := rPlSame_any Y Y YA ZA yn yc zn zc sy sz wf (HYA.out.up B_w3.out) (HZA.out.up B_w4.out)
    rw [samePl_self] at HC
    refine HC.mono ?_
    clear HC
    rintro e w7 ⟨rfl, hb⟩
    have B_w : Hid (Below w.heap.size w w7) := below_on2 B_w.out hb
    have B_wa : Hid (Below wa.heap.size wa w7) := below_on2 B_wa.out hb
    have B_w0 : Hid (Below w0.heap.size w0 w7) := below_on2 B_w0.out hb
    have B_w1 : Hid (Below w1.heap.size w1 w7) := below_on2 B_w1.out hb
    have B_w2 : Hid (Below w2.heap.size w2 w7) := below_on2 B_w2.out hb
    have B_wb : Hid (Below wb.heap.size wb w7) := below_on2 B_wb.out hb
    have B_w3 : Hid (Below w3.heap.size w3 w7) := below_on2 B_w3.out hb
    have B_wc : Hid (Below wc.heap.size wc w7) := below_on2 B_wc.out hb
    have B_w4 : Hid (Below w4.heap.size w4 w7) := below_on2 B_w4.out hb
    have B_wd : Hid (Below wd.heap.size wd w7) := below_on2 B_wd.out hb
    have B_w5 : Hid (Below w5.heap.size w5 w7) := below_on2 B_w5.out hb
    have B_we : Hid (Below we.heap.size we w7) := below_on2 B_we.out hb
    have B_w6 : Hid (Below w6.heap.size w6 w7) := below_on2 B_w6.out hb
    have B_wf : Hid (Below wf.heap.size wf w7) := hb
    clear hb
    have kR : Hid (Row w7 (w5.heap.size) 28 [.int .i64 p.w, .int .i64 p.h, .int .i64 p.edge, .slice WA wn wcp]) := (rowCells RW.out B_we.out)
    have k0 := kR.out.cell 0
    have k1 := kR.out.cell 1
    have k2 := kR.out.cell 2
    have k3 := kR.out.cell 3
    have kl := kR.out.lt
    simp only [List.getElem?_cons_zero, List.getElem?_cons_succ] at k0 k1 k2 k3
    clear kR
    have rR : Hid (Row w7 (w.heap.size) 28 [.int .i64 p.w, .int .i64 p.h, .int .i64 p.edge, .slice A n c]) := (rowCells RP.out B_wa.out)
    have r0 := rR.out.cell 0
    have r1 := rR.out.cell 1
    have r2 := rR.out.cell 2
    have r3 := rR.out.cell 3
    have rl := rR.out.lt
    simp only [List.getElem?_cons_zero, List.getElem?_cons_succ] at r0 r1 r2 r3
    clear rR
    go_wp2_with fail
    have HC := rPlSame_any p p WA A wn wcp n c sw sl w7 (HWA.out.up B_w5.out) (H.out.up B_w.out)
    rw [samePl_self] at HC
    refine HC.mono ?_
    clear HC
    rintro e w8 ⟨rfl, hb⟩
    have B_w : Hid (Below w.heap.size w w8) := below_on2 B_w.out hb
    have B_wa : Hid (Below wa.heap.size wa w8) := below_on2 B_wa.out hb
    have B_w0 : Hid (Below w0.heap.size w0 w8) := below_on2 B_w0.out hb
    have B_w1 : Hid (Below w1.heap.size w1 w8) := below_on2 B_w1.out hb
    have B_w2 : Hid (Below w2.heap.size w2 w8) := below_on2 B_w2.out hb
    have B_wb : Hid (Below wb.heap.size wb w8) := below_on2 B_wb.out hb
    have B_w3 : Hid (Below w3.heap.size w3 w8) := below_on2 B_w3.out hb
    have B_wc : Hid (Below wc.heap.size wc w8) := below_on2 B_wc.out hb
    have B_w4 : Hid (Below w4.heap.size w4 w8) := below_on2 B_w4.out hb
    have B_wd : Hid (Below wd.heap.size wd w8) := below_on2 B_wd.out hb
    have B_w5 : Hid (Below w5.heap.size w5 w8) := below_on2 B_w5.out hb
    have B_we : Hid (Below we.heap.size we w8) := below_on2 B_we.out hb
    have B_w6 : Hid (Below w6.heap.size w6 w8) := below_on2 B_w6.out hb
    have B_wf : Hid (Below wf.heap.size wf w8) := below_on2 B_wf.out hb
    have B_w7 : Hid (Below w7.heap.size w7 w8) := hb
    clear k0 k1 k2 k3 kl r0 r1 r2 r3 rl
    clear hb
    have kR : Hid (Row w8 (w6.heap.size) 28 [.int .i64 p.w, .int .i64 p.h, .int .i64 p.edge, .slice VA vn vc]) := (rowCells RV.out B_wf.out)
    have k0 := kR.out.cell 0
    have k1 := kR.out.cell 1
    have k2 := kR.out.cell 2
    have k3 := kR.out.cell 3
    have kl := kR.out.lt
    simp only [List.getElem?_cons_zero, List.getElem?_cons_succ] at k0 k1 k2 k3
    clear kR
    have rR : Hid (Row w8 (w.heap.size) 28 [.int .i64 p.w, .int .i64 p.h, .int .i64 p.edge, .slice A n c]) := (rowCells RP.out B_wa.out)
    have r0 := rR.out.cell 0
    have r1 := rR.out.cell 1
    have r2 := rR.out.cell 2
    have r3 := rR.out.cell 3
    have rl := rR.out.lt
    simp only [List.getElem?_cons_zero, List.getElem?_cons_succ] at r0 r1 r2 r3
    clear rR
    go_wp2_with fail
    have HC := rPlSame_any p p VA A vn vc n c sv sl w8 (HVA.out.up B_w6.out) (H.out.up B_w.out)
    rw [samePl_self] at HC
    refine HC.mono ?_
    clear HC
    rintro e w10 ⟨rfl, hb⟩
    have B_w : Hid (Below w.heap.size w w10) := below_on2 B_w.out hb
    have B_wa : Hid (Below wa.heap.size wa w10) := below_on2 B_wa.out hb
    have B_w0 : Hid (Below w0.heap.size w0 w10) := below_on2 B_w0.out hb
    have B_w1 : Hid (Below w1.heap.size w1 w10) := below_on2 B_w1.out hb
    have B_w2 : Hid (Below w2.heap.size w2 w10) := below_on2 B_w2.out hb
    have B_wb : Hid (Below wb.heap.size wb w10) := below_on2 B_wb.out hb
    have B_w3 : Hid (Below w3.heap.size w3 w10) := below_on2 B_w3.out hb
    have B_wc : Hid (Below wc.heap.size wc w10) := below_on2 B_wc.out hb
    have B_w4 : Hid (Below w4.heap.size w4 w10) := below_on2 B_w4.out hb
    have B_wd : Hid (Below wd.heap.size wd w10) := below_on2 B_wd.out hb
    have B_w5 : Hid (Below w5.heap.size w5 w10) := below_on2 B_w5.out hb
    have B_we : Hid (Below we.heap.size we w10) := below_on2 B_we.out hb
    have B_w6 : Hid (Below w6.heap.size w6 w10) := below_on2 B_w6.out hb
    have B_wf : Hid (Below wf.heap.size wf w10) := below_on2 B_wf.out hb
    have B_w7 : Hid (Below w7.heap.size w7 w10) := below_on2 B_w7.out hb
    have B_w8 : Hid (Below w8.heap.size w8 w10) := hb
    clear k0 k1 k2 k3 kl r0 r1 r2 r3 rl
    clear hb
    go_wp2_with fail
    refine (awake_any _).mono ?_
    rintro e w9 ⟨rfl, hb⟩
    have HBE : Hid (Below w.heap.size w w9) := below_on2 B_w.out hb
    clear hb
    go_wp2
    go_ret
    exact ⟨rfl, HBE.out⟩
  · have hne : (p.edge != 1) = true := by simpa using he
    clear hr he
    have kR : Hid (Row w1 (w.heap.size) 28 [.int .i64 p.w, .int .i64 p.h, .int .i64 p.edge, .slice A n c]) := (rowCells RP.out B_wa.out)
    have k0 := kR.out.cell 0
    have k1 := kR.out.cell 1
    have k2 := kR.out.cell 2
    have k3 := kR.out.cell 3
    have kl := kR.out.lt
    simp only [List.getElem?_cons_zero, List.getElem?_cons_succ] at k0 k1 k2 k3
    clear kR
    go_wp2_with fail
    refine (awake_any _).mono ?_
    rintro e w9 ⟨rfl, hb⟩
    have HBE : Hid (Below w.heap.size w w9) := below_on2 B_w.out hb
    clear hb
    go_wp2
    go_ret
    exact ⟨rfl, HBE.out⟩
end Go.Proofs.Ytfknooffjhncgaa
