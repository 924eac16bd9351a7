/-
  The law PlaneMoves: what it does.
-/
import Derived.Test.YtfknooffjhncgaaPAwake
import Derived.Test.YtfknooffjhncgaaPFew
namespace Go.Proofs.Ytfknooffjhncgaa
open Go.RowKit
set_option linter.unusedSimpArgs false
set_option linter.unusedVariables false
set_option maxRecDepth 100000 in
set_option maxHeartbeats 4000000 in
theorem lawMoves_any (p : Pln) (A : Option Addr) (n c : Nat) (sl : List Sl) (dx dy : Int) (w : World) (h : PAt w p A n sl) :
    Calls Try.prog 5 #[.agg #[.int .i64 p.w, .int .i64 p.h, .int .i64 p.edge, .slice A n c], .int .i64 dx, .int .i64 dy] w fun e w' => e = .returned (.bool true) ∧ Below w.heap.size w w' := by
  have H : Hid (PAt w p A n sl) := h
  clear h
  go_enter Try.func5, Try.ntmps5
  go_wp2_with fail
  have RG : Hid (Row (World.alloc w (.cells #[.int .i64 p.w, .int .i64 p.h, .int .i64 p.edge, .slice A n c] 28)) (w.heap.size) 28 [.int .i64 p.w, .int .i64 p.h, .int .i64 p.edge, .slice A n c]) := by
    have h0 := Row.new w 28 [.int .i64 p.w, .int .i64 p.h, .int .i64 p.edge, .slice A n c]
    try simp only [World.size_alloc] at h0
    exact h0
  have hgr9 : Below w.heap.size w (World.alloc w (.cells #[.int .i64 p.w, .int .i64 p.h, .int .i64 p.edge, .slice A n c] 28)) := by go_grown
  have B_w : Hid (Below w.heap.size w (World.alloc w (.cells #[.int .i64 p.w, .int .i64 p.h, .int .i64 p.edge, .slice A n c] 28))) := hgr9
  clear hgr9
  revert RG B_w
  generalize (World.alloc w (.cells #[.int .i64 p.w, .int .i64 p.h, .int .i64 p.edge, .slice A n c] 28)) = wa
  intro RG B_w
  refine (few_any p A n c sl wa (H.out.up B_w.out)).mono ?_
  rintro e w0 ⟨rfl, hb⟩
  have B_w : Hid (Below w.heap.size w w0) := below_on2 B_w.out hb
  have B_wa : Hid (Below wa.heap.size wa w0) := hb
  clear hb
  cases hf : fewF p
  · go_wp2_with fail
    refine (awake_any _).mono ?_
    rintro e w9 ⟨rfl, hb⟩
    have HBE : Hid (Below w.heap.size w w9) := below_on2 B_w.out hb
    clear hb
    go_wp2
    go_ret
    exact ⟨rfl, HBE.out⟩
  · clear hf
    have kR : Hid (Row w0 (w.heap.size) 28 [.int .i64 p.w, .int .i64 p.h, .int .i64 p.edge, .slice A n c]) := (rowCells RG.out B_wa.out)
    have k0 := kR.out.cell 0
    have k1 := kR.out.cell 1
    have k2 := kR.out.cell 2
    have k3 := kR.out.cell 3
    have kl := kR.out.lt
    simp only [List.getElem?_cons_zero, List.getElem?_cons_succ] at k0 k1 k2 k3
    clear kR
    go_wp2_with fail
    refine (plMove_any p A n c sl dx dy w0 (H.out.up B_w.out)).mono ?_
    rintro e w1 h1
    obtain ⟨PA, pn, pc, sp, rfl, hpa, hb⟩ := ppost_at h1
    have HP : Hid (PAt w1 (moveR p dx dy) PA pn sp) := hpa
    clear hpa h1
    have B_w : Hid (Below w.heap.size w w1) := below_on2 B_w.out hb
    have B_wa : Hid (Below wa.heap.size wa w1) := below_on2 B_wa.out hb
    have B_w0 : Hid (Below w0.heap.size w0 w1) := hb
    clear k0 k1 k2 k3 kl
    clear hb
    have kR : Hid (Row w1 (w.heap.size) 28 [.int .i64 p.w, .int .i64 p.h, .int .i64 p.edge, .slice A n c]) := (rowCells RG.out B_wa.out)
    have k0 := kR.out.cell 0
    have k1 := kR.out.cell 1
    have k2 := kR.out.cell 2
    have k3 := kR.out.cell 3
    have kl := kR.out.lt
    simp only [List.getElem?_cons_zero, List.getElem?_cons_succ] at k0 k1 k2 k3
    clear kR
    go_wp2_with fail
    have RP : Hid (Row (World.alloc w1 (.cells #[.int .i64 (moveR p dx dy).w, .int .i64 (moveR p dx dy).h, .int .i64 (moveR p dx dy).edge, .slice PA pn pc] 28)) (w1.heap.size) 28 [.int .i64 (moveR p dx dy).w, .int .i64 (moveR p dx dy).h, .int .i64 (moveR p dx dy).edge, .slice PA pn pc]) := by
      have h0 := Row.new w1 28 [.int .i64 (moveR p dx dy).w, .int .i64 (moveR p dx dy).h, .int .i64 (moveR p dx dy).edge, .slice PA pn pc]
      try simp only [World.size_alloc] at h0
      exact h0
    have hgr9 : Below w1.heap.size w1 (World.alloc w1 (.cells #[.int .i64 (moveR p dx dy).w, .int .i64 (moveR p dx dy).h, .int .i64 (moveR p dx dy).edge, .slice PA pn pc] 28)) := by go_grown
    have B_w : Hid (Below w.heap.size w (World.alloc w1 (.cells #[.int .i64 (moveR p dx dy).w, .int .i64 (moveR p dx dy).h, .int .i64 (moveR p dx dy).edge, .slice PA pn pc] 28))) := below_on2 B_w.out hgr9
    have B_wa : Hid (Below wa.heap.size wa (World.alloc w1 (.cells #[.int .i64 (moveR p dx dy).w, .int .i64 (moveR p dx dy).h, .int .i64 (moveR p dx dy).edge, .slice PA pn pc] 28))) := below_on2 B_wa.out hgr9
    have B_w0 : Hid (Below w0.heap.size w0 (World.alloc w1 (.cells #[.int .i64 (moveR p dx dy).w, .int .i64 (moveR p dx dy).h, .int .i64 (moveR p dx dy).edge, .slice PA pn pc] 28))) := below_on2 B_w0.out hgr9
    have B_w1 : Hid (Below w1.heap.size w1 (World.alloc w1 (.cells #[.int .i64 (moveR p dx dy).w, .int .i64 (moveR p dx dy).h, .int .i64 (moveR p dx dy).edge, .slice PA pn pc] 28))) := hgr9
    clear hgr9
    clear k0 k1 k2 k3 kl
    revert RP B_w B_wa B_w0 B_w1
    generalize (World.alloc w1 (.cells #[.int .i64 (moveR p dx dy).w, .int .i64 (moveR p dx dy).h, .int .i64 (moveR p dx dy).edge, .slice PA pn pc] 28)) = wb
    intro RP B_w B_wa B_w0 B_w1
    refine (rPlMove_any p A n c sl dx dy wb (H.out.up B_w.out)).mono ?_
    rintro e w2 h1
    obtain ⟨QA, qn, qc, sq, rfl, hpa, hb⟩ := ppost_at h1
    have HQ : Hid (PAt w2 (moveR p dx dy) QA qn sq) := hpa
    clear hpa h1
    have B_w : Hid (Below w.heap.size w w2) := below_on2 B_w.out hb
    have B_wa : Hid (Below wa.heap.size wa w2) := below_on2 B_wa.out hb
    have B_w0 : Hid (Below w0.heap.size w0 w2) := below_on2 B_w0.out hb
    have B_w1 : Hid (Below w1.heap.size w1 w2) := below_on2 B_w1.out hb
    have B_wb : Hid (Below wb.heap.size wb w2) := hb
    clear hb
    have kR : Hid (Row w2 (w1.heap.size) 28 [.int .i64 (moveR p dx dy).w, .int .i64 (moveR p dx dy).h, .int .i64 (moveR p dx dy).edge, .slice PA pn pc]) := (rowCells RP.out B_wb.out)
    have k0 := kR.out.cell 0
    have k1 := kR.out.cell 1
    have k2 := kR.out.cell 2
    have k3 := kR.out.cell 3
    have kl := kR.out.lt
    simp only [List.getElem?_cons_zero, List.getElem?_cons_succ] at k0 k1 k2 k3
    clear kR
    go_wp2_with fail
    have RQ : Hid (Row (World.alloc w2 (.cells #[.int .i64 (moveR p dx dy).w, .int .i64 (moveR p dx dy).h, .int .i64 (moveR p dx dy).edge, .slice QA qn qc] 28)) (w2.heap.size) 28 [.int .i64 (moveR p dx dy).w, .int .i64 (moveR p dx dy).h, .int .i64 (moveR p dx dy).edge, .slice QA qn qc]) := by
      have h0 := Row.new w2 28 [.int .i64 (moveR p dx dy).w, .int .i64 (moveR p dx dy).h, .int .i64 (moveR p dx dy).edge, .slice QA qn qc]
      try simp only [World.size_alloc] at h0
      exact h0
    have hgr9 : Below w2.heap.size w2 (World.alloc w2 (.cells #[.int .i64 (moveR p dx dy).w, .int .i64 (moveR p dx dy).h, .int .i64 (moveR p dx dy).edge, .slice QA qn qc] 28)) := by go_grown
    have B_w : Hid (Below w.heap.size w (World.alloc w2 (.cells #[.int .i64 (moveR p dx dy).w, .int .i64 (moveR p dx dy).h, .int .i64 (moveR p dx dy).edge, .slice QA qn qc] 28))) := below_on2 B_w.out hgr9
    have B_wa : Hid (Below wa.heap.size wa (World.alloc w2 (.cells #[.int .i64 (moveR p dx dy).w, .int .i64 (moveR p dx dy).h, .int .i64 (moveR p dx dy).edge, .slice QA qn qc] 28))) := below_on2 B_wa.out hgr9
    have B_w0 : Hid (Below w0.heap.size w0 (World.alloc w2 (.cells #[.int .i64 (moveR p dx dy).w, .int .i64 (moveR p dx dy).h, .int .i64 (moveR p dx dy).edge, .slice QA qn qc] 28))) := below_on2 B_w0.out hgr9
    have B_w1 : Hid (Below w1.heap.size w1 (World.alloc w2 (.cells #[.int .i64 (moveR p dx dy).w, .int .i64 (moveR p dx dy).h, .int .i64 (moveR p dx dy).edge, .slice QA qn qc] 28))) := below_on2 B_w1.out hgr9
    have B_wb : Hid (Below wb.heap.size wb (World.alloc w2 (.cells #[.int .i64 (moveR p dx dy).w, .int .i64 (moveR p dx dy).h, .int .i64 (moveR p dx dy).edge, .slice QA qn qc] 28))) := below_on2 B_wb.out hgr9
    have B_w2 : Hid (Below w2.heap.size w2 (World.alloc w2 (.cells #[.int .i64 (moveR p dx dy).w, .int .i64 (moveR p dx dy).h, .int .i64 (moveR p dx dy).edge, .slice QA qn qc] 28))) := hgr9
    clear hgr9
    clear k0 k1 k2 k3 kl
    revert RQ B_w B_wa B_w0 B_w1 B_wb B_w2
    generalize (World.alloc w2 (.cells #[.int .i64 (moveR p dx dy).w, .int .i64 (moveR p dx dy).h, .int .i64 (moveR p dx dy).edge, .slice QA qn qc] 28)) = wc
    intro RQ B_w B_wa B_w0 B_w1 B_wb B_w2
    have HC := rPlSame_any (moveR p dx dy) (moveR p dx dy) PA QA pn pc qn qc sp sq wc (HP.out.up B_w1.out) (HQ.out.up B_w2.out)
    rw [samePl_self] at HC
    refine HC.mono ?_
    clear HC
    rintro e w3 ⟨rfl, hb⟩
    have B_w : Hid (Below w.heap.size w w3) := below_on2 B_w.out hb
    have B_wa : Hid (Below wa.heap.size wa w3) := below_on2 B_wa.out hb
    have B_w0 : Hid (Below w0.heap.size w0 w3) := below_on2 B_w0.out hb
    have B_w1 : Hid (Below w1.heap.size w1 w3) := below_on2 B_w1.out hb
    have B_wb : Hid (Below wb.heap.size wb w3) := below_on2 B_wb.out hb
    have B_w2 : Hid (Below w2.heap.size w2 w3) := below_on2 B_w2.out hb
    have B_wc : Hid (Below wc.heap.size wc w3) := hb
    clear hb
    go_wp2_with fail
    refine (awake_any _).mono ?_
    rintro e w9 ⟨rfl, hb⟩
    have B_w : Hid (Below w.heap.size w w9) := below_on2 B_w.out hb
    have B_wa : Hid (Below wa.heap.size wa w9) := below_on2 B_wa.out hb
    have B_w0 : Hid (Below w0.heap.size w0 w9) := below_on2 B_w0.out hb
    have B_w1 : Hid (Below w1.heap.size w1 w9) := below_on2 B_w1.out hb
    have B_wb : Hid (Below wb.heap.size wb w9) := below_on2 B_wb.out hb
    have B_w2 : Hid (Below w2.heap.size w2 w9) := below_on2 B_w2.out hb
    have B_wc : Hid (Below wc.heap.size wc w9) := below_on2 B_wc.out hb
    have B_w3 : Hid (Below w3.heap.size w3 w9) := hb
    clear hb
    go_wp2
    go_ret
    exact ⟨rfl, B_w.out⟩
end Go.Proofs.Ytfknooffjhncgaa
