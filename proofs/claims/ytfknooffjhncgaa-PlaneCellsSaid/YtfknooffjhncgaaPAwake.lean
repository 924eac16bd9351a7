/-
  The examples of the chapter on bit planes: the law's awake, walked.
-/
import Derived.Test.YtfknooffjhncgaaPMoveR
import Derived.Test.YtfknooffjhncgaaPCount
import Derived.Test.YtfknooffjhncgaaTInts
namespace Go.Proofs.Ytfknooffjhncgaa
open Go.RowKit
set_option linter.unusedSimpArgs false
set_option linter.unusedVariables false
def gEx : Grd := ⟨4, 1, 1, [0, 1, 2, 3]⟩
def gFold : Grd := ⟨4, 1, 2, [0, 1, 2, 3]⟩
def pEx : Pln := ⟨4, 1, 1, [[10#64], [12#64]]⟩
def mEx : Pln := ⟨4, 1, 1, [[5#64], [6#64]]⟩
def pFold : Pln := ⟨4, 1, 2, [[10#64], [12#64]]⟩
def mFold : Pln := ⟨4, 1, 2, [[13#64], [14#64]]⟩
theorem add_nil (a : Addr) : a.add 0 = a := by unfold Addr.add; simp
theorem ex1 : packR gEx 2 = pEx := by kernel_rfl
theorem ex2 : packErr gEx 2 = 0 := by kernel_rfl
theorem ex3 : moveR pEx 1 0 = mEx := by kernel_rfl
theorem ex4 : moveErr pEx 1 0 = 0 := by kernel_rfl
theorem ex5 : unpackR mEx = ⟨4, 1, 1, [1, 2, 3, 0]⟩ := by kernel_rfl
theorem ex6 : unpackErr mEx = 0 := by kernel_rfl
theorem ex7 : packR gEx 1 = noPln := by kernel_rfl
theorem ex8 : packErr gEx 1 = 10 := by kernel_rfl
theorem ex9 : packR gFold 2 = pFold := by kernel_rfl
theorem ex10 : packErr gFold 2 = 0 := by kernel_rfl
theorem ex11 : moveR pFold 1 0 = mFold := by kernel_rfl
theorem ex12 : moveErr pFold 1 0 = 0 := by kernel_rfl
theorem ex13 : unpackR mFold = ⟨4, 1, 2, [1, 2, 3, 3]⟩ := by kernel_rfl
theorem ex14 : unpackErr mFold = 0 := by kernel_rfl
theorem ex15 : countF pEx = [1, 1, 1, 1] := by kernel_rfl
theorem ex16 : rightPl pEx = true := by kernel_rfl
theorem ex17 : samePl pEx mEx = false := by kernel_rfl

set_option maxRecDepth 100000 in
set_option maxHeartbeats 6000000 in
theorem awake_any (w : World) : Calls Try.prog 9 #[] w fun e w' => e = .returned (.bool true) ∧ Below w.heap.size w w' := by
  go_enter Try.func9, Try.ntmps9
  go_wp2_with fail
  have RI : Hid (Row (World.alloc (World.alloc w (.cells #[.int .i64 0, .int .i64 1, .int .i64 2, .int .i64 3] 3)) (.cells #[.int .i64 4, .int .i64 1, .int .i64 1, .slice (some ⟨w.heap.size, 0, none⟩) 4 4] 24)) (w.heap.size) 3 [.int .i64 0, .int .i64 1, .int .i64 2, .int .i64 3]) := by
    have h0 := Row.new w 3 [.int .i64 0, .int .i64 1, .int .i64 2, .int .i64 3]
    try simp only [World.size_alloc] at h0
    exact (h0.alloc _)
  have RG : Hid (Row (World.alloc (World.alloc w (.cells #[.int .i64 0, .int .i64 1, .int .i64 2, .int .i64 3] 3)) (.cells #[.int .i64 4, .int .i64 1, .int .i64 1, .slice (some ⟨w.heap.size, 0, none⟩) 4 4] 24)) (w.heap.size + 1) 24 [.int .i64 4, .int .i64 1, .int .i64 1, .slice (some ⟨w.heap.size, 0, none⟩) 4 4]) := by
    have h0 := Row.new (World.alloc w (.cells #[.int .i64 0, .int .i64 1, .int .i64 2, .int .i64 3] 3)) 24 [.int .i64 4, .int .i64 1, .int .i64 1, .slice (some ⟨w.heap.size, 0, none⟩) 4 4]
    try simp only [World.size_alloc] at h0
    exact h0
  have hgr9 : Below w.heap.size w (World.alloc (World.alloc w (.cells #[.int .i64 0, .int .i64 1, .int .i64 2, .int .i64 3] 3)) (.cells #[.int .i64 4, .int .i64 1, .int .i64 1, .slice (some ⟨w.heap.size, 0, none⟩) 4 4] 24)) := by go_grown
  have B_w : Hid (Below w.heap.size w (World.alloc (World.alloc w (.cells #[.int .i64 0, .int .i64 1, .int .i64 2, .int .i64 3] 3)) (.cells #[.int .i64 4, .int .i64 1, .int .i64 1, .slice (some ⟨w.heap.size, 0, none⟩) 4 4] 24))) := hgr9
  clear hgr9
  revert RI RG B_w
  generalize (World.alloc (World.alloc w (.cells #[.int .i64 0, .int .i64 1, .int .i64 2, .int .i64 3] 3)) (.cells #[.int .i64 4, .int .i64 1, .int .i64 1, .slice (some ⟨w.heap.size, 0, none⟩) 4 4] 24)) = wa
  intro RI RG B_w
  have HG : Hid (GAt wa gEx (some ⟨w.heap.size, 0, none⟩) 4) := ⟨RI.out.rd rfl, by unfold maxLen; omega⟩
  have HC := plPack_any gEx (some ⟨w.heap.size, 0, none⟩) 4 4 2 wa HG.out
  rw [ex1, ex2] at HC
  refine HC.mono ?_
  clear HC
  rintro e w1 h1
  obtain ⟨PA, pn, pc, sl, he, hpa, hb⟩ := ppost_at h1
  have he2 : e = .returned (.tuple #[.agg #[.int .i64 4, .int .i64 1, .int .i64 1, .slice PA pn pc], .int .i64 0]) := he
  subst he2
  obtain rfl : 2 = pn := hpa.wl
  have HP : Hid (PAt w1 pEx PA 2 sl) := hpa
  clear he h1 hpa
  have B_w : Hid (Below w.heap.size w w1) := below_on2 B_w.out hb
  have B_wa : Hid (Below wa.heap.size wa w1) := hb
  clear hb
  go_wp2_with fail
  have RP : Hid (Row (World.alloc w1 (.cells #[.int .i64 4, .int .i64 1, .int .i64 1, .slice PA 2 pc] 28)) (w1.heap.size) 28 [.int .i64 4, .int .i64 1, .int .i64 1, .slice PA 2 pc]) := by
    have h0 := Row.new w1 28 [.int .i64 4, .int .i64 1, .int .i64 1, .slice PA 2 pc]
    try simp only [World.size_alloc] at h0
    exact h0
  have hgr9 : Below w1.heap.size w1 (World.alloc w1 (.cells #[.int .i64 4, .int .i64 1, .int .i64 1, .slice PA 2 pc] 28)) := by go_grown
  have B_w : Hid (Below w.heap.size w (World.alloc w1 (.cells #[.int .i64 4, .int .i64 1, .int .i64 1, .slice PA 2 pc] 28))) := below_on2 B_w.out hgr9
  have B_wa : Hid (Below wa.heap.size wa (World.alloc w1 (.cells #[.int .i64 4, .int .i64 1, .int .i64 1, .slice PA 2 pc] 28))) := below_on2 B_wa.out hgr9
  have B_w1 : Hid (Below w1.heap.size w1 (World.alloc w1 (.cells #[.int .i64 4, .int .i64 1, .int .i64 1, .slice PA 2 pc] 28))) := hgr9
  clear hgr9
  revert RP B_w B_wa B_w1
  generalize (World.alloc w1 (.cells #[.int .i64 4, .int .i64 1, .int .i64 1, .slice PA 2 pc] 28)) = wb
  intro RP B_w B_wa B_w1
  have HC := plMove_any pEx PA 2 pc sl 1 0 wb (HP.out.up B_w1.out)
  rw [ex3, ex4] at HC
  refine HC.mono ?_
  clear HC
  rintro e w2 h1
  obtain ⟨MA, mn, mc, sm, he, hpa, hb⟩ := ppost_at h1
  have he2 : e = .returned (.tuple #[.agg #[.int .i64 4, .int .i64 1, .int .i64 1, .slice MA mn mc], .int .i64 0]) := he
  subst he2
  obtain rfl : 2 = mn := hpa.wl
  have HM : Hid (PAt w2 mEx MA 2 sm) := hpa
  clear he h1 hpa
  have B_w : Hid (Below w.heap.size w w2) := below_on2 B_w.out hb
  have B_wa : Hid (Below wa.heap.size wa w2) := below_on2 B_wa.out hb
  have B_w1 : Hid (Below w1.heap.size w1 w2) := below_on2 B_w1.out hb
  have B_wb : Hid (Below wb.heap.size wb w2) := hb
  clear hb
  go_wp2_with fail
  have RM : Hid (Row (World.alloc w2 (.cells #[.int .i64 4, .int .i64 1, .int .i64 1, .slice MA 2 mc] 28)) (w2.heap.size) 28 [.int .i64 4, .int .i64 1, .int .i64 1, .slice MA 2 mc]) := by
    have h0 := Row.new w2 28 [.int .i64 4, .int .i64 1, .int .i64 1, .slice MA 2 mc]
    try simp only [World.size_alloc] at h0
    exact h0
  have hgr9 : Below w2.heap.size w2 (World.alloc w2 (.cells #[.int .i64 4, .int .i64 1, .int .i64 1, .slice MA 2 mc] 28)) := by go_grown
  have B_w : Hid (Below w.heap.size w (World.alloc w2 (.cells #[.int .i64 4, .int .i64 1, .int .i64 1, .slice MA 2 mc] 28))) := below_on2 B_w.out hgr9
  have B_wa : Hid (Below wa.heap.size wa (World.alloc w2 (.cells #[.int .i64 4, .int .i64 1, .int .i64 1, .slice MA 2 mc] 28))) := below_on2 B_wa.out hgr9
  have B_w1 : Hid (Below w1.heap.size w1 (World.alloc w2 (.cells #[.int .i64 4, .int .i64 1, .int .i64 1, .slice MA 2 mc] 28))) := below_on2 B_w1.out hgr9
  have B_wb : Hid (Below wb.heap.size wb (World.alloc w2 (.cells #[.int .i64 4, .int .i64 1, .int .i64 1, .slice MA 2 mc] 28))) := below_on2 B_wb.out hgr9
  have B_w2 : Hid (Below w2.heap.size w2 (World.alloc w2 (.cells #[.int .i64 4, .int .i64 1, .int .i64 1, .slice MA 2 mc] 28))) := hgr9
  clear hgr9
  revert RM B_w B_wa B_w1 B_wb B_w2
  generalize (World.alloc w2 (.cells #[.int .i64 4, .int .i64 1, .int .i64 1, .slice MA 2 mc] 28)) = wc
  intro RM B_w B_wa B_w1 B_wb B_w2
  have HC := plUnpack_any mEx MA 2 mc sm wc (HM.out.up B_w2.out)
  rw [ex5, ex6] at HC
  refine HC.mono ?_
  clear HC
  rintro e w3 ⟨UA, un, uc, he, hga, hb⟩
  have he2 : e = .returned (.tuple #[.agg #[.int .i64 4, .int .i64 1, .int .i64 1, .slice UA un uc], .int .i64 0]) := he
  subst he2
  obtain rfl : 4 = un := hga.cl
  have HU : Hid (GAt w3 ⟨4, 1, 1, [1, 2, 3, 0]⟩ UA 4) := hga
  clear he hga
  have B_w : Hid (Below w.heap.size w w3) := below_on2 B_w.out hb
  have B_wa : Hid (Below wa.heap.size wa w3) := below_on2 B_wa.out hb
  have B_w1 : Hid (Below w1.heap.size w1 w3) := below_on2 B_w1.out hb
  have B_wb : Hid (Below wb.heap.size wb w3) := below_on2 B_wb.out hb
  have B_w2 : Hid (Below w2.heap.size w2 w3) := below_on2 B_w2.out hb
  have B_wc : Hid (Below wc.heap.size wc w3) := hb
  clear hb
  have kR : Hid (Row w3 (w.heap.size + 1) 24 [.int .i64 4, .int .i64 1, .int .i64 1, .slice (some ⟨w.heap.size, 0, none⟩) 4 4]) := (rowCells RG.out B_wa.out)
  have k0 := kR.out.cell 0
  have k1 := kR.out.cell 1
  have k2 := kR.out.cell 2
  have k3 := kR.out.cell 3
  have kl := kR.out.lt
  simp only [List.getElem?_cons_zero, List.getElem?_cons_succ] at k0 k1 k2 k3
  clear kR
  go_wp2_with fail
  have RU : Hid (Row (World.alloc w3 (.cells #[.int .i64 4, .int .i64 1, .int .i64 1, .slice UA 4 uc] 24)) (w3.heap.size) 24 [.int .i64 4, .int .i64 1, .int .i64 1, .slice UA 4 uc]) := by
    have h0 := Row.new w3 24 [.int .i64 4, .int .i64 1, .int .i64 1, .slice UA 4 uc]
    try simp only [World.size_alloc] at h0
    exact h0
  have hgr9 : Below w3.heap.size w3 (World.alloc w3 (.cells #[.int .i64 4, .int .i64 1, .int .i64 1, .slice UA 4 uc] 24)) := by go_grown
  have B_w : Hid (Below w.heap.size w (World.alloc w3 (.cells #[.int .i64 4, .int .i64 1, .int .i64 1, .slice UA 4 uc] 24))) := below_on2 B_w.out hgr9
  have B_wa : Hid (Below wa.heap.size wa (World.alloc w3 (.cells #[.int .i64 4, .int .i64 1, .int .i64 1, .slice UA 4 uc] 24))) := below_on2 B_wa.out hgr9
  have B_w1 : Hid (Below w1.heap.size w1 (World.alloc w3 (.cells #[.int .i64 4, .int .i64 1, .int .i64 1, .slice UA 4 uc] 24))) := below_on2 B_w1.out hgr9
  have B_wb : Hid (Below wb.heap.size wb (World.alloc w3 (.cells #[.int .i64 4, .int .i64 1, .int .i64 1, .slice UA 4 uc] 24))) := below_on2 B_wb.out hgr9
  have B_w2 : Hid (Below w2.heap.size w2 (World.alloc w3 (.cells #[.int .i64 4, .int .i64 1, .int .i64 1, .slice UA 4 uc] 24))) := below_on2 B_w2.out hgr9
  have B_wc : Hid (Below wc.heap.size wc (World.alloc w3 (.cells #[.int .i64 4, .int .i64 1, .int .i64 1, .slice UA 4 uc] 24))) := below_on2 B_wc.out hgr9
  have B_w3 : Hid (Below w3.heap.size w3 (World.alloc w3 (.cells #[.int .i64 4, .int .i64 1, .int .i64 1, .slice UA 4 uc] 24))) := hgr9
  clear hgr9
  clear k0 k1 k2 k3 kl
  revert RU B_w B_wa B_w1 B_wb B_w2 B_wc B_w3
  generalize (World.alloc w3 (.cells #[.int .i64 4, .int .i64 1, .int .i64 1, .slice UA 4 uc] 24)) = wd
  intro RU B_w B_wa B_w1 B_wb B_w2 B_wc B_w3
  have HC := plPack_any gEx (some ⟨w.heap.size, 0, none⟩) 4 4 1 wd (HG.out.up B_wa.out)
  rw [ex7, ex8] at HC
  refine HC.mono ?_
  clear HC
  rintro e w4 h1
  obtain ⟨NA, nn, nc, sn, he, hpa, hb⟩ := ppost_at h1
  have he2 : e = .returned (.tuple #[.agg #[.int .i64 0, .int .i64 0, .int .i64 0, .slice NA nn nc], .int .i64 10]) := he
  subst he2
  clear he h1 hpa
  have B_w : Hid (Below w.heap.size w w4) := below_on2 B_w.out hb
  have B_wa : Hid (Below wa.heap.size wa w4) := below_on2 B_wa.out hb
  have B_w1 : Hid (Below w1.heap.size w1 w4) := below_on2 B_w1.out hb
  have B_wb : Hid (Below wb.heap.size wb w4) := below_on2 B_wb.out hb
  have B_w2 : Hid (Below w2.heap.size w2 w4) := below_on2 B_w2.out hb
  have B_wc : Hid (Below wc.heap.size wc w4) := below_on2 B_wc.out hb
  have B_w3 : Hid (Below w3.heap.size w3 w4) := below_on2 B_w3.out hb
  have B_wd : Hid (Below wd.heap.size wd w4) := hb
  clear hb
  have kR : Hid (Row w4 (w.heap.size + 1) 24 [.int .i64 4, .int .i64 1, .int .i64 1, .slice (some ⟨w.heap.size, 0, none⟩) 4 4]) := (rowCells RG.out B_wa.out)
  have k0 := kR.out.cell 0
  have k1 := kR.out.cell 1
  have k2 := kR.out.cell 2
  have k3 := kR.out.cell 3
  have kl := kR.out.lt
  simp only [List.getElem?_cons_zero, List.getElem?_cons_succ] at k0 k1 k2 k3
  clear kR
  go_wp2_with fail
  have RF : Hid (Row (World.alloc (World.alloc w4 (.cells #[.int .i64 0, .int .i64 0, .int .i64 0, .slice NA nn nc] 28)) (.cells #[.int .i64 4, .int .i64 1, .int .i64 2, .slice (some ⟨w.heap.size, 0, none⟩) 4 4] 24)) (w4.heap.size + 1) 24 [.int .i64 4, .int .i64 1, .int .i64 2, .slice (some ⟨w.heap.size, 0, none⟩) 4 4]) := by
    have h0 := Row.new (World.alloc w4 (.cells #[.int .i64 0, .int .i64 0, .int .i64 0, .slice NA nn nc] 28)) 24 [.int .i64 4, .int .i64 1, .int .i64 2, .slice (some ⟨w.heap.size, 0, none⟩) 4 4]
    try simp only [World.size_alloc] at h0
    exact h0
  have hgr9 : Below w4.heap.size w4 (World.alloc (World.alloc w4 (.cells #[.int .i64 0, .int .i64 0, .int .i64 0, .slice NA nn nc] 28)) (.cells #[.int .i64 4, .int .i64 1, .int .i64 2, .slice (some ⟨w.heap.size, 0, none⟩) 4 4] 24)) := by go_grown
  have B_w : Hid (Below w.heap.size w (World.alloc (World.alloc w4 (.cells #[.int .i64 0, .int .i64 0, .int .i64 0, .slice NA nn nc] 28)) (.cells #[.int .i64 4, .int .i64 1, .int .i64 2, .slice (some ⟨w.heap.size, 0, none⟩) 4 4] 24))) := below_on2 B_w.out hgr9
  have B_wa : Hid (Below wa.heap.size wa (World.alloc (World.alloc w4 (.cells #[.int .i64 0, .int .i64 0, .int .i64 0, .slice NA nn nc] 28)) (.cells #[.int .i64 4, .int .i64 1, .int .i64 2, .slice (some ⟨w.heap.size, 0, none⟩) 4 4] 24))) := below_on2 B_wa.out hgr9
  have B_w1 : Hid (Below w1.heap.size w1 (World.alloc (World.alloc w4 (.cells #[.int .i64 0, .int .i64 0, .int .i64 0, .slice NA nn nc] 28)) (.cells #[.int .i64 4, .int .i64 1, .int .i64 2, .slice (some ⟨w.heap.size, 0, none⟩) 4 4] 24))) := below_on2 B_w1.out hgr9
  have B_wb : Hid (Below wb.heap.size wb (World.alloc (World.alloc w4 (.cells #[.int .i64 0, .int .i64 0, .int .i64 0, .slice NA nn nc] 28)) (.cells #[.int .i64 4, .int .i64 1, .int .i64 2, .slice (some ⟨w.heap.size, 0, none⟩) 4 4] 24))) := below_on2 B_wb.out hgr9
  have B_w2 : Hid (Below w2.heap.size w2 (World.alloc (World.alloc w4 (.cells #[.int .i64 0, .int .i64 0, .int .i64 0, .slice NA nn nc] 28)) (.cells #[.int .i64 4, .int .i64 1, .int .i64 2, .slice (some ⟨w.heap.size, 0, none⟩) 4 4] 24))) := below_on2 B_w2.out hgr9
  have B_wc : Hid (Below wc.heap.size wc (World.alloc (World.alloc w4 (.cells #[.int .i64 0, .int .i64 0, .int .i64 0, .slice NA nn nc] 28)) (.cells #[.int .i64 4, .int .i64 1, .int .i64 2, .slice (some ⟨w.heap.size, 0, none⟩) 4 4] 24))) := below_on2 B_wc.out hgr9
  have B_w3 : Hid (Below w3.heap.size w3 (World.alloc (World.alloc w4 (.cells #[.int .i64 0, .int .i64 0, .int .i64 0, .slice NA nn nc] 28)) (.cells #[.int .i64 4, .int .i64 1, .int .i64 2, .slice (some ⟨w.heap.size, 0, none⟩) 4 4] 24))) := below_on2 B_w3.out hgr9
  have B_wd : Hid (Below wd.heap.size wd (World.alloc (World.alloc w4 (.cells #[.int .i64 0, .int .i64 0, .int .i64 0, .slice NA nn nc] 28)) (.cells #[.int .i64 4, .int .i64 1, .int .i64 2, .slice (some ⟨w.heap.size, 0, none⟩) 4 4] 24))) := below_on2 B_wd.out hgr9
  have B_w4 : Hid (Below w4.heap.size w4 (World.alloc (World.alloc w4 (.cells #[.int .i64 0, .int .i64 0, .int .i64 0, .slice NA nn nc] 28)) (.cells #[.int .i64 4, .int .i64 1, .int .i64 2, .slice (some ⟨w.heap.size, 0, none⟩) 4 4] 24))) := hgr9
  clear hgr9
  clear k0 k1 k2 k3 kl
  revert RF B_w B_wa B_w1 B_wb B_w2 B_wc B_w3 B_wd B_w4
  generalize (World.alloc (World.alloc w4 (.cells #[.int .i64 0, .int .i64 0, .int .i64 0, .slice NA nn nc] 28)) (.cells #[.int .i64 4, .int .i64 1, .int .i64 2, .slice (some ⟨w.heap.size, 0, none⟩) 4 4] 24)) = we
  intro RF B_w B_wa B_w1 B_wb B_w2 B_wc B_w3 B_wd B_w4
  have HF : Hid (GAt we gFold (some ⟨w.heap.size, 0, none⟩) 4) := ⟨(HG.out.up B_wa.out).cells, by unfold maxLen; omega⟩
  have HC := plPack_any gFold (some ⟨w.heap.size, 0, none⟩) 4 4 2 we HF.out
  rw [ex9, ex10] at HC
  refine HC.mono ?_
  clear HC
  rintro e w5 h1
  obtain ⟨QA, qn, qc, sq, he, hpa, hb⟩ := ppost_at h1
  have he2 : e = .returned (.tuple #[.agg #[.int .i64 4, .int .i64 1, .int .i64 2, .slice QA qn qc], .int .i64 0]) := he
  subst he2
  obtain rfl : 2 = qn := hpa.wl
  have HQ : Hid (PAt w5 pFold QA 2 sq) := hpa
  clear he h1 hpa
  have B_w : Hid (Below w.heap.size w w5) := below_on2 B_w.out hb
  have B_wa : Hid (Below wa.heap.size wa w5) := below_on2 B_wa.out hb
  have B_w1 : Hid (Below w1.heap.size w1 w5) := below_on2 B_w1.out hb
  have B_wb : Hid (Below wb.heap.size wb w5) := below_on2 B_wb.out hb
  have B_w2 : Hid (Below w2.heap.size w2 w5) := below_on2 B_w2.out hb
  have B_wc : Hid (Below wc.heap.size wc w5) := below_on2 B_wc.out hb
  have B_w3 : Hid (Below w3.heap.size w3 w5) := below_on2 B_w3.out hb
  have B_wd : Hid (Below wd.heap.size wd w5) := below_on2 B_wd.out hb
  have B_w4 : Hid (Below w4.heap.size w4 w5) := below_on2 B_w4.out hb
  have B_we : Hid (Below we.heap.size we w5) := hb
  clear hb
  have C_w := B_w
  have C_wa := B_wa
  have C_w1 := B_w1
  have C_wb := B_wb
  have C_w2 := B_w2
  have C_wc := B_wc
  have C_w3 := B_w3
  have C_wd := B_wd
  have C_w4 := B_w4
  have C_we := B_we
  go_wp2_with fail
  have RQ : Hid (Row (World.alloc w5 (.cells #[.int .i64 4, .int .i64 1, .int .i64 2, .slice QA 2 qc] 28)) (w5.heap.size) 28 [.int .i64 4, .int .i64 1, .int .i64 2, .slice QA 2 qc]) := by
    have h0 := Row.new w5 28 [.int .i64 4, .int .i64 1, .int .i64 2, .slice QA 2 qc]
    try simp only [World.size_alloc] at h0
    exact h0
  have hgr9 : Below w5.heap.size w5 (World.alloc w5 (.cells #[.int .i64 4, .int .i64 1, .int .i64 2, .slice QA 2 qc] 28)) := by go_grown
  have B_w : Hid (Below w.heap.size w (World.alloc w5 (.cells #[.int .i64 4, .int .i64 1, .int .i64 2, .slice QA 2 qc] 28))) := below_on2 B_w.out hgr9
  have B_wa : Hid (Below wa.heap.size wa (World.alloc w5 (.cells #[.int .i64 4, .int .i64 1, .int .i64 2, .slice QA 2 qc] 28))) := below_on2 B_wa.out hgr9
  have B_w1 : Hid (Below w1.heap.size w1 (World.alloc w5 (.cells #[.int .i64 4, .int .i64 1, .int .i64 2, .slice QA 2 qc] 28))) := below_on2 B_w1.out hgr9
  have B_wb : Hid (Below wb.heap.size wb (World.alloc w5 (.cells #[.int .i64 4, .int .i64 1, .int .i64 2, .slice QA 2 qc] 28))) := below_on2 B_wb.out hgr9
  have B_w2 : Hid (Below w2.heap.size w2 (World.alloc w5 (.cells #[.int .i64 4, .int .i64 1, .int .i64 2, .slice QA 2 qc] 28))) := below_on2 B_w2.out hgr9
  have B_wc : Hid (Below wc.heap.size wc (World.alloc w5 (.cells #[.int .i64 4, .int .i64 1, .int .i64 2, .slice QA 2 qc] 28))) := below_on2 B_wc.out hgr9
  have B_w3 : Hid (Below w3.heap.size w3 (World.alloc w5 (.cells #[.int .i64 4, .int .i64 1, .int .i64 2, .slice QA 2 qc] 28))) := below_on2 B_w3.out hgr9
  have B_wd : Hid (Below wd.heap.size wd (World.alloc w5 (.cells #[.int .i64 4, .int .i64 1, .int .i64 2, .slice QA 2 qc] 28))) := below_on2 B_wd.out hgr9
  have B_w4 : Hid (Below w4.heap.size w4 (World.alloc w5 (.cells #[.int .i64 4, .int .i64 1, .int .i64 2, .slice QA 2 qc] 28))) := below_on2 B_w4.out hgr9
  have B_we : Hid (Below we.heap.size we (World.alloc w5 (.cells #[.int .i64 4, .int .i64 1, .int .i64 2, .slice QA 2 qc] 28))) := below_on2 B_we.out hgr9
  have B_w5 : Hid (Below w5.heap.size w5 (World.alloc w5 (.cells #[.int .i64 4, .int .i64 1, .int .i64 2, .slice QA 2 qc] 28))) := hgr9
  clear hgr9
  revert RQ B_w B_wa B_w1 B_wb B_w2 B_wc B_w3 B_wd B_w4 B_we B_w5
  generalize (World.alloc w5 (.cells #[.int .i64 4, .int .i64 1, .int .i64 2, .slice QA 2 qc] 28)) = wf
  intro RQ B_w B_wa B_w1 B_wb B_w2 B_wc B_w3 B_wd B_w4 B_we B_w5
  have HC := plMove_any pFold QA 2 qc sq 1 0 wf (HQ.out.up B_w5.out)
  rw [ex11, ex12] at HC
  refine HC.mono ?_
  clear HC
  rintro e w6 ⟨FA, fn, fc, M, gs, he, hpo, ⟨hp1, hp2, hp3⟩, hb⟩
  have he2 : e = .returned (.tuple #[.agg #[.int .i64 4, .int .i64 1, .int .i64 2, .slice FA fn fc], .int .i64 0]) := he
  subst he2
  obtain rfl : 2 = fn := hp1
  have HLQ : Hid (w5.heap.size < wf.heap.size) := RQ.out.lt
  have HPO : Hid (POwn w6 wf.heap.size (.slice FA 2 fc) M gs mFold.words) := hpo
  clear he hpo hp2
  have B_w : Hid (Below w.heap.size w w6) := below_on2 B_w.out hb
  have B_wa : Hid (Below wa.heap.size wa w6) := below_on2 B_wa.out hb
  have B_w1 : Hid (Below w1.heap.size w1 w6) := below_on2 B_w1.out hb
  have B_wb : Hid (Below wb.heap.size wb w6) := below_on2 B_wb.out hb
  have B_w2 : Hid (Below w2.heap.size w2 w6) := below_on2 B_w2.out hb
  have B_wc : Hid (Below wc.heap.size wc w6) := below_on2 B_wc.out hb
  have B_w3 : Hid (Below w3.heap.size w3 w6) := below_on2 B_w3.out hb
  have B_wd : Hid (Below wd.heap.size wd w6) := below_on2 B_wd.out hb
  have B_w4 : Hid (Below w4.heap.size w4 w6) := below_on2 B_w4.out hb
  have B_we : Hid (Below we.heap.size we w6) := below_on2 B_we.out hb
  have B_w5 : Hid (Below w5.heap.size w5 w6) := below_on2 B_w5.out hb
  have B_wf : Hid (Below wf.heap.size wf w6) := hb
  clear hb
  have kR : Hid (Row w6 (w5.heap.size) 28 [.int .i64 4, .int .i64 1, .int .i64 2, .slice QA 2 qc]) := (rowCells RQ.out B_wf.out)
  have k0 := kR.out.cell 0
  have k1 := kR.out.cell 1
  have k2 := kR.out.cell 2
  have k3 := kR.out.cell 3
  have kl := kR.out.lt
  simp only [List.getElem?_cons_zero, List.getElem?_cons_succ] at k0 k1 k2 k3
  clear kR
  have RQ6 : Hid (Row w6 w5.heap.size 28 [.int .i64 4, .int .i64 1, .int .i64 2, .slice QA 2 qc]) := (rowCells RQ.out B_wf.out)
  have kf0 := RQ6.out.frozen 0
  have kf1 := RQ6.out.frozen 1
  have kf2 := RQ6.out.frozen 2
  have kf3 := RQ6.out.frozen 3
  go_wp2_with fail
  obtain ⟨hbl, RQ7, _⟩ := put4 (.int .i64 4) (.int .i64 1) (.int .i64 2) (.slice FA 2 fc) RQ6.out (Nat.le_refl w5.heap.size) B_w5.out
  have hpo := HPO.out.far4 (.int .i64 4) (.int .i64 1) (.int .i64 2) (.slice FA 2 fc) RQ6.out (by decide) HLQ.out
  have HF7 := hpo.pAt (p := mFold) rfl (by unfold maxLen; omega) (by unfold maxLen; omega)
  generalize gs.map (fun g => (⟨some ⟨g, 0, none⟩, M, M⟩ : Sl)) = sf at HF7
  have hbl : Hid (Below w5.heap.size w5 _) := hbl
  have RQ7 : Hid (Row _ w5.heap.size 28 [.int .i64 4, .int .i64 1, .int .i64 2, .slice FA 2 fc]) := RQ7
  have HF7 : Hid (PAt _ mFold FA 2 sf) := HF7
  clear hpo HPO RQ6 kf0 kf1 kf2 kf3
  clear k0 k1 k2 k3 kl
  revert hbl RQ7 HF7
  generalize World.setCell (World.setCell (World.setCell (World.setCell w6 ⟨w5.heap.size, 0, none⟩ (.int .i64 4)) ⟨w5.heap.size, 1, none⟩ (.int .i64 1)) ⟨w5.heap.size, 2, none⟩ (.int .i64 2)) ⟨w5.heap.size, 3, none⟩ (.slice FA 2 fc) = wg
  intro hbl RQ7 HF7
  have B_w : Hid (Below w.heap.size w wg) := below_on2 C_w.out hbl.out
  have B_wa : Hid (Below wa.heap.size wa wg) := below_on2 C_wa.out hbl.out
  have B_w1 : Hid (Below w1.heap.size w1 wg) := below_on2 C_w1.out hbl.out
  have B_wb : Hid (Below wb.heap.size wb wg) := below_on2 C_wb.out hbl.out
  have B_w2 : Hid (Below w2.heap.size w2 wg) := below_on2 C_w2.out hbl.out
  have B_wc : Hid (Below wc.heap.size wc wg) := below_on2 C_wc.out hbl.out
  have B_w3 : Hid (Below w3.heap.size w3 wg) := below_on2 C_w3.out hbl.out
  have B_wd : Hid (Below wd.heap.size wd wg) := below_on2 C_wd.out hbl.out
  have B_w4 : Hid (Below w4.heap.size w4 wg) := below_on2 C_w4.out hbl.out
  have B_we : Hid (Below we.heap.size we wg) := below_on2 C_we.out hbl.out
  have B_w5 : Hid (Below w5.heap.size w5 wg) := hbl.out
  clear B_wf C_w C_wa C_w1 C_wb C_w2 C_wc C_w3 C_wd C_w4 C_we
  have HC := plUnpack_any mFold FA 2 fc sf wg HF7.out
  rw [ex13, ex14] at HC
  refine HC.mono ?_
  clear HC
  rintro e w8 ⟨VA, vn, vc, he, hga, hb⟩
  have he2 : e = .returned (.tuple #[.agg #[.int .i64 4, .int .i64 1, .int .i64 2, .slice VA vn vc], .int .i64 0]) := he
  subst he2
  obtain rfl : 4 = vn := hga.cl
  have HV : Hid (GAt w8 ⟨4, 1, 2, [1, 2, 3, 3]⟩ VA 4) := hga
  clear he hga
  have B_w : Hid (Below w.heap.size w w8) := below_on2 B_w.out hb
  have B_wa : Hid (Below wa.heap.size wa w8) := below_on2 B_wa.out hb
  have B_w1 : Hid (Below w1.heap.size w1 w8) := below_on2 B_w1.out hb
  have B_wb : Hid (Below wb.heap.size wb w8) := below_on2 B_wb.out hb
  have B_w2 : Hid (Below w2.heap.size w2 w8) := below_on2 B_w2.out hb
  have B_wc : Hid (Below wc.heap.size wc w8) := below_on2 B_wc.out hb
  have B_w3 : Hid (Below w3.heap.size w3 w8) := below_on2 B_w3.out hb
  have B_wd : Hid (Below wd.heap.size wd w8) := below_on2 B_wd.out hb
  have B_w4 : Hid (Below w4.heap.size w4 w8) := below_on2 B_w4.out hb
  have B_we : Hid (Below we.heap.size we w8) := below_on2 B_we.out hb
  have B_w5 : Hid (Below w5.heap.size w5 w8) := below_on2 B_w5.out hb
  have B_wg : Hid (Below wg.heap.size wg w8) := hb
  clear hb
  obtain ⟨ad, rfl, hab, hp0, hd0, _, hl0⟩ := (HP.out.up B_w1.out).row (k := 0) (by omega)
  obtain ⟨ad', e, _, hp1, hd1, _, hl1⟩ := (HP.out.up B_w1.out).row (k := 1) (by omega)
  injection e with e
  subst e
  generalize sl.getD 0 default = s0 at hp0 hd0 hl0
  generalize sl.getD 1 default = s1 at hp1 hd1 hl1
  obtain ⟨a0, n0, c0⟩ := s0
  obtain ⟨a1, n1, c1⟩ := s1
  dsimp only at hp0 hd0 hl0 hp1 hd1 hl1
  obtain rfl : 1 = n0 := hl0
  obtain rfl : 1 = n1 := hl1
  obtain ⟨r0, rfl, hb0, hw0⟩ := hd0.word (k := 0) (by omega)
  obtain ⟨r1, rfl, hb1, hw1⟩ := hd1.word (k := 0) (by omega)
  have hw0 : w8.cell? (r0.add 0) = some (.int .u64 10) := hw0
  have hw1 : w8.cell? (r1.add 0) = some (.int .u64 12) := hw1
  rw [add_nil] at hp0 hw0 hw1
  have hp1 : w8.cell? ⟨ad.block, ad.off + 1, none⟩ = some (.slice (some r1) 1 c1) := hp1
  clear hd0 hd1
  have kR : Hid (Row w8 (w1.heap.size) 28 [.int .i64 4, .int .i64 1, .int .i64 1, .slice (some ad) 2 pc]) := (rowCells RP.out B_wb.out)
  have k0 := kR.out.cell 0
  have k1 := kR.out.cell 1
  have k2 := kR.out.cell 2
  have k3 := kR.out.cell 3
  have kl := kR.out.lt
  simp only [List.getElem?_cons_zero, List.getElem?_cons_succ] at k0 k1 k2 k3
  clear kR
  go_wp2_with fail
  clear hp0 hp1 hw0 hw1 hab hb0 hb1
  have RV : Hid (Row (World.alloc w8 (.cells #[.int .i64 4, .int .i64 1, .int .i64 2, .slice VA 4 vc] 24)) (w8.heap.size) 24 [.int .i64 4, .int .i64 1, .int .i64 2, .slice VA 4 vc]) := by
    have h0 := Row.new w8 24 [.int .i64 4, .int .i64 1, .int .i64 2, .slice VA 4 vc]
    try simp only [World.size_alloc] at h0
    exact h0
  have hgr9 : Below w8.heap.size w8 (World.alloc w8 (.cells #[.int .i64 4, .int .i64 1, .int .i64 2, .slice VA 4 vc] 24)) := by go_grown
  have B_w : Hid (Below w.heap.size w (World.alloc w8 (.cells #[.int .i64 4, .int .i64 1, .int .i64 2, .slice VA 4 vc] 24))) := below_on2 B_w.out hgr9
  have B_wa : Hid (Below wa.heap.size wa (World.alloc w8 (.cells #[.int .i64 4, .int .i64 1, .int .i64 2, .slice VA 4 vc] 24))) := below_on2 B_wa.out hgr9
  have B_w1 : Hid (Below w1.heap.size w1 (World.alloc w8 (.cells #[.int .i64 4, .int .i64 1, .int .i64 2, .slice VA 4 vc] 24))) := below_on2 B_w1.out hgr9
  have B_wb : Hid (Below wb.heap.size wb (World.alloc w8 (.cells #[.int .i64 4, .int .i64 1, .int .i64 2, .slice VA 4 vc] 24))) := below_on2 B_wb.out hgr9
  have B_w2 : Hid (Below w2.heap.size w2 (World.alloc w8 (.cells #[.int .i64 4, .int .i64 1, .int .i64 2, .slice VA 4 vc] 24))) := below_on2 B_w2.out hgr9
  have B_wc : Hid (Below wc.heap.size wc (World.alloc w8 (.cells #[.int .i64 4, .int .i64 1, .int .i64 2, .slice VA 4 vc] 24))) := below_on2 B_wc.out hgr9
  have B_w3 : Hid (Below w3.heap.size w3 (World.alloc w8 (.cells #[.int .i64 4, .int .i64 1, .int .i64 2, .slice VA 4 vc] 24))) := below_on2 B_w3.out hgr9
  have B_wd : Hid (Below wd.heap.size wd (World.alloc w8 (.cells #[.int .i64 4, .int .i64 1, .int .i64 2, .slice VA 4 vc] 24))) := below_on2 B_wd.out hgr9
  have B_w4 : Hid (Below w4.heap.size w4 (World.alloc w8 (.cells #[.int .i64 4, .int .i64 1, .int .i64 2, .slice VA 4 vc] 24))) := below_on2 B_w4.out hgr9
  have B_we : Hid (Below we.heap.size we (World.alloc w8 (.cells #[.int .i64 4, .int .i64 1, .int .i64 2, .slice VA 4 vc] 24))) := below_on2 B_we.out hgr9
  have B_w5 : Hid (Below w5.heap.size w5 (World.alloc w8 (.cells #[.int .i64 4, .int .i64 1, .int .i64 2, .slice VA 4 vc] 24))) := below_on2 B_w5.out hgr9
  have B_wg : Hid (Below wg.heap.size wg (World.alloc w8 (.cells #[.int .i64 4, .int .i64 1, .int .i64 2, .slice VA 4 vc] 24))) := below_on2 B_wg.out hgr9
  have B_w8 : Hid (Below w8.heap.size w8 (World.alloc w8 (.cells #[.int .i64 4, .int .i64 1, .int .i64 2, .slice VA 4 vc] 24))) := hgr9
  clear hgr9
  clear k0 k1 k2 k3 kl
  revert RV B_w B_wa B_w1 B_wb B_w2 B_wc B_w3 B_wd B_w4 B_we B_w5 B_wg B_w8
  generalize (World.alloc w8 (.cells #[.int .i64 4, .int .i64 1, .int .i64 2, .slice VA 4 vc] 24)) = wi
  intro RV B_w B_wa B_w1 B_wb B_w2 B_wc B_w3 B_wd B_w4 B_we B_w5 B_wg B_w8
  have HC := plCount_any pEx (some ad) 2 pc sl wi (HP.out.up B_w1.out)
  rw [ex15] at HC
  refine HC.mono ?_
  clear HC
  rintro e w9 ⟨CA, cn, cc, rfl, hcr, hcn, hb⟩
  have hcl := hcr.1
  rw [ints_length] at hcl
  obtain rfl : 4 = cn := by simpa using hcl
  have HCR : Hid (Rd w9 w9.heap.size 1 CA 4 (ints [1, 1, 1, 1])) := hcr
  clear hcr hcl
  have B_w : Hid (Below w.heap.size w w9) := below_on2 B_w.out hb
  have B_wa : Hid (Below wa.heap.size wa w9) := below_on2 B_wa.out hb
  have B_w1 : Hid (Below w1.heap.size w1 w9) := below_on2 B_w1.out hb
  have B_wb : Hid (Below wb.heap.size wb w9) := below_on2 B_wb.out hb
  have B_w2 : Hid (Below w2.heap.size w2 w9) := below_on2 B_w2.out hb
  have B_wc : Hid (Below wc.heap.size wc w9) := below_on2 B_wc.out hb
  have B_w3 : Hid (Below w3.heap.size w3 w9) := below_on2 B_w3.out hb
  have B_wd : Hid (Below wd.heap.size wd w9) := below_on2 B_wd.out hb
  have B_w4 : Hid (Below w4.heap.size w4 w9) := below_on2 B_w4.out hb
  have B_we : Hid (Below we.heap.size we w9) := below_on2 B_we.out hb
  have B_w5 : Hid (Below w5.heap.size w5 w9) := below_on2 B_w5.out hb
  have B_wg : Hid (Below wg.heap.size wg w9) := below_on2 B_wg.out hb
  have B_w8 : Hid (Below w8.heap.size w8 w9) := below_on2 B_w8.out hb
  have B_wi : Hid (Below wi.heap.size wi w9) := hb
  clear hb
  go_wp2_with fail
  have RJ : Hid (Row (World.alloc w9 (.cells #[.int .i64 1, .int .i64 1, .int .i64 1, .int .i64 1] 3)) (w9.heap.size) 3 [.int .i64 1, .int .i64 1, .int .i64 1, .int .i64 1]) := by
    have h0 := Row.new w9 3 [.int .i64 1, .int .i64 1, .int .i64 1, .int .i64 1]
    try simp only [World.size_alloc] at h0
    exact h0
  have hgr9 : Below w9.heap.size w9 (World.alloc w9 (.cells #[.int .i64 1, .int .i64 1, .int .i64 1, .int .i64 1] 3)) := by go_grown
  have B_w : Hid (Below w.heap.size w (World.alloc w9 (.cells #[.int .i64 1, .int .i64 1, .int .i64 1, .int .i64 1] 3))) := below_on2 B_w.out hgr9
  have B_wa : Hid (Below wa.heap.size wa (World.alloc w9 (.cells #[.int .i64 1, .int .i64 1, .int .i64 1, .int .i64 1] 3))) := below_on2 B_wa.out hgr9
  have B_w1 : Hid (Below w1.heap.size w1 (World.alloc w9 (.cells #[.int .i64 1, .int .i64 1, .int .i64 1, .int .i64 1] 3))) := below_on2 B_w1.out hgr9
  have B_wb : Hid (Below wb.heap.size wb (World.alloc w9 (.cells #[.int .i64 1, .int .i64 1, .int .i64 1, .int .i64 1] 3))) := below_on2 B_wb.out hgr9
  have B_w2 : Hid (Below w2.heap.size w2 (World.alloc w9 (.cells #[.int .i64 1, .int .i64 1, .int .i64 1, .int .i64 1] 3))) := below_on2 B_w2.out hgr9
  have B_wc : Hid (Below wc.heap.size wc (World.alloc w9 (.cells #[.int .i64 1, .int .i64 1, .int .i64 1, .int .i64 1] 3))) := below_on2 B_wc.out hgr9
  have B_w3 : Hid (Below w3.heap.size w3 (World.alloc w9 (.cells #[.int .i64 1, .int .i64 1, .int .i64 1, .int .i64 1] 3))) := below_on2 B_w3.out hgr9
  have B_wd : Hid (Below wd.heap.size wd (World.alloc w9 (.cells #[.int .i64 1, .int .i64 1, .int .i64 1, .int .i64 1] 3))) := below_on2 B_wd.out hgr9
  have B_w4 : Hid (Below w4.heap.size w4 (World.alloc w9 (.cells #[.int .i64 1, .int .i64 1, .int .i64 1, .int .i64 1] 3))) := below_on2 B_w4.out hgr9
  have B_we : Hid (Below we.heap.size we (World.alloc w9 (.cells #[.int .i64 1, .int .i64 1, .int .i64 1, .int .i64 1] 3))) := below_on2 B_we.out hgr9
  have B_w5 : Hid (Below w5.heap.size w5 (World.alloc w9 (.cells #[.int .i64 1, .int .i64 1, .int .i64 1, .int .i64 1] 3))) := below_on2 B_w5.out hgr9
  have B_wg : Hid (Below wg.heap.size wg (World.alloc w9 (.cells #[.int .i64 1, .int .i64 1, .int .i64 1, .int .i64 1] 3))) := below_on2 B_wg.out hgr9
  have B_w8 : Hid (Below w8.heap.size w8 (World.alloc w9 (.cells #[.int .i64 1, .int .i64 1, .int .i64 1, .int .i64 1] 3))) := below_on2 B_w8.out hgr9
  have B_wi : Hid (Below wi.heap.size wi (World.alloc w9 (.cells #[.int .i64 1, .int .i64 1, .int .i64 1, .int .i64 1] 3))) := below_on2 B_wi.out hgr9
  have B_w9 : Hid (Below w9.heap.size w9 (World.alloc w9 (.cells #[.int .i64 1, .int .i64 1, .int .i64 1, .int .i64 1] 3))) := hgr9
  clear hgr9
  revert RJ B_w B_wa B_w1 B_wb B_w2 B_wc B_w3 B_wd B_w4 B_we B_w5 B_wg B_w8 B_wi B_w9
  generalize (World.alloc w9 (.cells #[.int .i64 1, .int .i64 1, .int .i64 1, .int .i64 1] 3)) = wj
  intro RJ B_w B_wa B_w1 B_wb B_w2 B_wc B_w3 B_wd B_w4 B_we B_w5 B_wg B_w8 B_wi B_w9
  have HC := lInts_any CA (some ⟨w9.heap.size, 0, none⟩) 4 4 cc 4 [1, 1, 1, 1] [1, 1, 1, 1] wj (HCR.out.up B_w9.out) (RJ.out.rd rfl) (by unfold maxLen; omega) (by unfold maxLen; omega)
  rw [decide_eq_true rfl] at HC
  refine HC.mono ?_
  clear HC
  rintro e w10 ⟨rfl, hb⟩
  have B_w : Hid (Below w.heap.size w w10) := below_on2 B_w.out hb
  have B_wa : Hid (Below wa.heap.size wa w10) := below_on2 B_wa.out hb
  have B_w1 : Hid (Below w1.heap.size w1 w10) := below_on2 B_w1.out hb
  have B_wb : Hid (Below wb.heap.size wb w10) := below_on2 B_wb.out hb
  have B_w2 : Hid (Below w2.heap.size w2 w10) := below_on2 B_w2.out hb
  have B_wc : Hid (Below wc.heap.size wc w10) := below_on2 B_wc.out hb
  have B_w3 : Hid (Below w3.heap.size w3 w10) := below_on2 B_w3.out hb
  have B_wd : Hid (Below wd.heap.size wd w10) := below_on2 B_wd.out hb
  have B_w4 : Hid (Below w4.heap.size w4 w10) := below_on2 B_w4.out hb
  have B_we : Hid (Below we.heap.size we w10) := below_on2 B_we.out hb
  have B_w5 : Hid (Below w5.heap.size w5 w10) := below_on2 B_w5.out hb
  have B_wg : Hid (Below wg.heap.size wg w10) := below_on2 B_wg.out hb
  have B_w8 : Hid (Below w8.heap.size w8 w10) := below_on2 B_w8.out hb
  have B_wi : Hid (Below wi.heap.size wi w10) := below_on2 B_wi.out hb
  have B_w9 : Hid (Below w9.heap.size w9 w10) := below_on2 B_w9.out hb
  have B_wj : Hid (Below wj.heap.size wj w10) := hb
  clear hb
  have kR : Hid (Row w10 (w3.heap.size) 24 [.int .i64 4, .int .i64 1, .int .i64 1, .slice UA 4 uc]) := (rowCells RU.out B_wd.out)
  have k0 := kR.out.cell 0
  have k1 := kR.out.cell 1
  have k2 := kR.out.cell 2
  have k3 := kR.out.cell 3
  have kl := kR.out.lt
  simp only [List.getElem?_cons_zero, List.getElem?_cons_succ] at k0 k1 k2 k3
  clear kR
  go_wp2_with fail
  have RK : Hid (Row (World.alloc w10 (.cells #[.int .i64 1, .int .i64 2, .int .i64 3, .int .i64 0] 3)) (w10.heap.size) 3 [.int .i64 1, .int .i64 2, .int .i64 3, .int .i64 0]) := by
    have h0 := Row.new w10 3 [.int .i64 1, .int .i64 2, .int .i64 3, .int .i64 0]
    try simp only [World.size_alloc] at h0
    exact h0
  have hgr9 : Below w10.heap.size w10 (World.alloc w10 (.cells #[.int .i64 1, .int .i64 2, .int .i64 3, .int .i64 0] 3)) := by go_grown
  have B_w : Hid (Below w.heap.size w (World.alloc w10 (.cells #[.int .i64 1, .int .i64 2, .int .i64 3, .int .i64 0] 3))) := below_on2 B_w.out hgr9
  have B_wa : Hid (Below wa.heap.size wa (World.alloc w10 (.cells #[.int .i64 1, .int .i64 2, .int .i64 3, .int .i64 0] 3))) := below_on2 B_wa.out hgr9
  have B_w1 : Hid (Below w1.heap.size w1 (World.alloc w10 (.cells #[.int .i64 1, .int .i64 2, .int .i64 3, .int .i64 0] 3))) := below_on2 B_w1.out hgr9
  have B_wb : Hid (Below wb.heap.size wb (World.alloc w10 (.cells #[.int .i64 1, .int .i64 2, .int .i64 3, .int .i64 0] 3))) := below_on2 B_wb.out hgr9
  have B_w2 : Hid (Below w2.heap.size w2 (World.alloc w10 (.cells #[.int .i64 1, .int .i64 2, .int .i64 3, .int .i64 0] 3))) := below_on2 B_w2.out hgr9
  have B_wc : Hid (Below wc.heap.size wc (World.alloc w10 (.cells #[.int .i64 1, .int .i64 2, .int .i64 3, .int .i64 0] 3))) := below_on2 B_wc.out hgr9
  have B_w3 : Hid (Below w3.heap.size w3 (World.alloc w10 (.cells #[.int .i64 1, .int .i64 2, .int .i64 3, .int .i64 0] 3))) := below_on2 B_w3.out hgr9
  have B_wd : Hid (Below wd.heap.size wd (World.alloc w10 (.cells #[.int .i64 1, .int .i64 2, .int .i64 3, .int .i64 0] 3))) := below_on2 B_wd.out hgr9
  have B_w4 : Hid (Below w4.heap.size w4 (World.alloc w10 (.cells #[.int .i64 1, .int .i64 2, .int .i64 3, .int .i64 0] 3))) := below_on2 B_w4.out hgr9
  have B_we : Hid (Below we.heap.size we (World.alloc w10 (.cells #[.int .i64 1, .int .i64 2, .int .i64 3, .int .i64 0] 3))) := below_on2 B_we.out hgr9
  have B_w5 : Hid (Below w5.heap.size w5 (World.alloc w10 (.cells #[.int .i64 1, .int .i64 2, .int .i64 3, .int .i64 0] 3))) := below_on2 B_w5.out hgr9
  have B_wg : Hid (Below wg.heap.size wg (World.alloc w10 (.cells #[.int .i64 1, .int .i64 2, .int .i64 3, .int .i64 0] 3))) := below_on2 B_wg.out hgr9
  have B_w8 : Hid (Below w8.heap.size w8 (World.alloc w10 (.cells #[.int .i64 1, .int .i64 2, .int .i64 3, .int .i64 0] 3))) := below_on2 B_w8.out hgr9
  have B_wi : Hid (Below wi.heap.size wi (World.alloc w10 (.cells #[.int .i64 1, .int .i64 2, .int .i64 3, .int .i64 0] 3))) := below_on2 B_wi.out hgr9
  have B_w9 : Hid (Below w9.heap.size w9 (World.alloc w10 (.cells #[.int .i64 1, .int .i64 2, .int .i64 3, .int .i64 0] 3))) := below_on2 B_w9.out hgr9
  have B_wj : Hid (Below wj.heap.size wj (World.alloc w10 (.cells #[.int .i64 1, .int .i64 2, .int .i64 3, .int .i64 0] 3))) := below_on2 B_wj.out hgr9
  have B_w10 : Hid (Below w10.heap.size w10 (World.alloc w10 (.cells #[.int .i64 1, .int .i64 2, .int .i64 3, .int .i64 0] 3))) := hgr9
  clear hgr9
  clear k0 k1 k2 k3 kl
  revert RK B_w B_wa B_w1 B_wb B_w2 B_wc B_w3 B_wd B_w4 B_we B_w5 B_wg B_w8 B_wi B_w9 B_wj B_w10
  generalize (World.alloc w10 (.cells #[.int .i64 1, .int .i64 2, .int .i64 3, .int .i64 0] 3)) = wk
  intro RK B_w B_wa B_w1 B_wb B_w2 B_wc B_w3 B_wd B_w4 B_we B_w5 B_wg B_w8 B_wi B_w9 B_wj B_w10
  have HC := lInts_any UA (some ⟨w10.heap.size, 0, none⟩) 4 4 uc 4 [1, 2, 3, 0] [1, 2, 3, 0] wk (HU.out.up B_w3.out).cells (RK.out.rd rfl) (by unfold maxLen; omega) (by unfold maxLen; omega)
  rw [decide_eq_true rfl] at HC
  refine HC.mono ?_
  clear HC
  rintro e w11 ⟨rfl, hb⟩
  have B_w : Hid (Below w.heap.size w w11) := below_on2 B_w.out hb
  have B_wa : Hid (Below wa.heap.size wa w11) := below_on2 B_wa.out hb
  have B_w1 : Hid (Below w1.heap.size w1 w11) := below_on2 B_w1.out hb
  have B_wb : Hid (Below wb.heap.size wb w11) := below_on2 B_wb.out hb
  have B_w2 : Hid (Below w2.heap.size w2 w11) := below_on2 B_w2.out hb
  have B_wc : Hid (Below wc.heap.size wc w11) := below_on2 B_wc.out hb
  have B_w3 : Hid (Below w3.heap.size w3 w11) := below_on2 B_w3.out hb
  have B_wd : Hid (Below wd.heap.size wd w11) := below_on2 B_wd.out hb
  have B_w4 : Hid (Below w4.heap.size w4 w11) := below_on2 B_w4.out hb
  have B_we : Hid (Below we.heap.size we w11) := below_on2 B_we.out hb
  have B_w5 : Hid (Below w5.heap.size w5 w11) := below_on2 B_w5.out hb
  have B_wg : Hid (Below wg.heap.size wg w11) := below_on2 B_wg.out hb
  have B_w8 : Hid (Below w8.heap.size w8 w11) := below_on2 B_w8.out hb
  have B_wi : Hid (Below wi.heap.size wi w11) := below_on2 B_wi.out hb
  have B_w9 : Hid (Below w9.heap.size w9 w11) := below_on2 B_w9.out hb
  have B_wj : Hid (Below wj.heap.size wj w11) := below_on2 B_wj.out hb
  have B_w10 : Hid (Below w10.heap.size w10 w11) := below_on2 B_w10.out hb
  have B_wk : Hid (Below wk.heap.size wk w11) := hb
  clear hb
  have kR : Hid (Row w11 (w8.heap.size) 24 [.int .i64 4, .int .i64 1, .int .i64 2, .slice VA 4 vc]) := (rowCells RV.out B_wi.out)
  have k0 := kR.out.cell 0
  have k1 := kR.out.cell 1
  have k2 := kR.out.cell 2
  have k3 := kR.out.cell 3
  have kl := kR.out.lt
  simp only [List.getElem?_cons_zero, List.getElem?_cons_succ] at k0 k1 k2 k3
  clear kR
  go_wp2_with fail
  have RL : Hid (Row (World.alloc w11 (.cells #[.int .i64 1, .int .i64 2, .int .i64 3, .int .i64 3] 3)) (w11.heap.size) 3 [.int .i64 1, .int .i64 2, .int .i64 3, .int .i64 3]) := by
    have h0 := Row.new w11 3 [.int .i64 1, .int .i64 2, .int .i64 3, .int .i64 3]
    try simp only [World.size_alloc] at h0
    exact h0
  have hgr9 : Below w11.heap.size w11 (World.alloc w11 (.cells #[.int .i64 1, .int .i64 2, .int .i64 3, .int .i64 3] 3)) := by go_grown
  have B_w : Hid (Below w.heap.size w (World.alloc w11 (.cells #[.int .i64 1, .int .i64 2, .int .i64 3, .int .i64 3] 3))) := below_on2 B_w.out hgr9
  have B_wa : Hid (Below wa.heap.size wa (World.alloc w11 (.cells #[.int .i64 1, .int .i64 2, .int .i64 3, .int .i64 3] 3))) := below_on2 B_wa.out hgr9
  have B_w1 : Hid (Below w1.heap.size w1 (World.alloc w11 (.cells #[.int .i64 1, .int .i64 2, .int .i64 3, .int .i64 3] 3))) := below_on2 B_w1.out hgr9
  have B_wb : Hid (Below wb.heap.size wb (World.alloc w11 (.cells #[.int .i64 1, .int .i64 2, .int .i64 3, .int .i64 3] 3))) := below_on2 B_wb.out hgr9
  have B_w2 : Hid (Below w2.heap.size w2 (World.alloc w11 (.cells #[.int .i64 1, .int .i64 2, .int .i64 3, .int .i64 3] 3))) := below_on2 B_w2.out hgr9
  have B_wc : Hid (Below wc.heap.size wc (World.alloc w11 (.cells #[.int .i64 1, .int .i64 2, .int .i64 3, .int .i64 3] 3))) := below_on2 B_wc.out hgr9
  have B_w3 : Hid (Below w3.heap.size w3 (World.alloc w11 (.cells #[.int .i64 1, .int .i64 2, .int .i64 3, .int .i64 3] 3))) := below_on2 B_w3.out hgr9
  have B_wd : Hid (Below wd.heap.size wd (World.alloc w11 (.cells #[.int .i64 1, .int .i64 2, .int .i64 3, .int .i64 3] 3))) := below_on2 B_wd.out hgr9
  have B_w4 : Hid (Below w4.heap.size w4 (World.alloc w11 (.cells #[.int .i64 1, .int .i64 2, .int .i64 3, .int .i64 3] 3))) := below_on2 B_w4.out hgr9
  have B_we : Hid (Below we.heap.size we (World.alloc w11 (.cells #[.int .i64 1, .int .i64 2, .int .i64 3, .int .i64 3] 3))) := below_on2 B_we.out hgr9
  have B_w5 : Hid (Below w5.heap.size w5 (World.alloc w11 (.cells #[.int .i64 1, .int .i64 2, .int .i64 3, .int .i64 3] 3))) := below_on2 B_w5.out hgr9
  have B_wg : Hid (Below wg.heap.size wg (World.alloc w11 (.cells #[.int .i64 1, .int .i64 2, .int .i64 3, .int .i64 3] 3))) := below_on2 B_wg.out hgr9
  have B_w8 : Hid (Below w8.heap.size w8 (World.alloc w11 (.cells #[.int .i64 1, .int .i64 2, .int .i64 3, .int .i64 3] 3))) := below_on2 B_w8.out hgr9
  have B_wi : Hid (Below wi.heap.size wi (World.alloc w11 (.cells #[.int .i64 1, .int .i64 2, .int .i64 3, .int .i64 3] 3))) := below_on2 B_wi.out hgr9
  have B_w9 : Hid (Below w9.heap.size w9 (World.alloc w11 (.cells #[.int .i64 1, .int .i64 2, .int .i64 3, .int .i64 3] 3))) := below_on2 B_w9.out hgr9
  have B_wj : Hid (Below wj.heap.size wj (World.alloc w11 (.cells #[.int .i64 1, .int .i64 2, .int .i64 3, .int .i64 3] 3))) := below_on2 B_wj.out hgr9
  have B_w10 : Hid (Below w10.heap.size w10 (World.alloc w11 (.cells #[.int .i64 1, .int .i64 2, .int .i64 3, .int .i64 3] 3))) := below_on2 B_w10.out hgr9
  have B_wk : Hid (Below wk.heap.size wk (World.alloc w11 (.cells #[.int .i64 1, .int .i64 2, .int .i64 3, .int .i64 3] 3))) := below_on2 B_wk.out hgr9
  have B_w11 : Hid (Below w11.heap.size w11 (World.alloc w11 (.cells #[.int .i64 1, .int .i64 2, .int .i64 3, .int .i64 3] 3))) := hgr9
  clear hgr9
  clear k0 k1 k2 k3 kl
  revert RL B_w B_wa B_w1 B_wb B_w2 B_wc B_w3 B_wd B_w4 B_we B_w5 B_wg B_w8 B_wi B_w9 B_wj B_w10 B_wk B_w11
  generalize (World.alloc w11 (.cells #[.int .i64 1, .int .i64 2, .int .i64 3, .int .i64 3] 3)) = wl
  intro RL B_w B_wa B_w1 B_wb B_w2 B_wc B_w3 B_wd B_w4 B_we B_w5 B_wg B_w8 B_wi B_w9 B_wj B_w10 B_wk B_w11
  have HC := lInts_any VA (some ⟨w11.heap.size, 0, none⟩) 4 4 vc 4 [1, 2, 3, 3] [1, 2, 3, 3] wl (HV.out.up B_w8.out).cells (RL.out.rd rfl) (by unfold maxLen; omega) (by unfold maxLen; omega)
  rw [decide_eq_true rfl] at HC
  refine HC.mono ?_
  clear HC
  rintro e w12 ⟨rfl, hb⟩
  have B_w : Hid (Below w.heap.size w w12) := below_on2 B_w.out hb
  have B_wa : Hid (Below wa.heap.size wa w12) := below_on2 B_wa.out hb
  have B_w1 : Hid (Below w1.heap.size w1 w12) := below_on2 B_w1.out hb
  have B_wb : Hid (Below wb.heap.size wb w12) := below_on2 B_wb.out hb
  have B_w2 : Hid (Below w2.heap.size w2 w12) := below_on2 B_w2.out hb
  have B_wc : Hid (Below wc.heap.size wc w12) := below_on2 B_wc.out hb
  have B_w3 : Hid (Below w3.heap.size w3 w12) := below_on2 B_w3.out hb
  have B_wd : Hid (Below wd.heap.size wd w12) := below_on2 B_wd.out hb
  have B_w4 : Hid (Below w4.heap.size w4 w12) := below_on2 B_w4.out hb
  have B_we : Hid (Below we.heap.size we w12) := below_on2 B_we.out hb
  have B_w5 : Hid (Below w5.heap.size w5 w12) := below_on2 B_w5.out hb
  have B_wg : Hid (Below wg.heap.size wg w12) := below_on2 B_wg.out hb
  have B_w8 : Hid (Below w8.heap.size w8 w12) := below_on2 B_w8.out hb
  have B_wi : Hid (Below wi.heap.size wi w12) := below_on2 B_wi.out hb
  have B_w9 : Hid (Below w9.heap.size w9 w12) := below_on2 B_w9.out hb
  have B_wj : Hid (Below wj.heap.size wj w12) := below_on2 B_wj.out hb
  have B_w10 : Hid (Below w10.heap.size w10 w12) := below_on2 B_w10.out hb
  have B_wk : Hid (Below wk.heap.size wk w12) := below_on2 B_wk.out hb
  have B_w11 : Hid (Below w11.heap.size w11 w12) := below_on2 B_w11.out hb
  have B_wl : Hid (Below wl.heap.size wl w12) := hb
  clear hb
  have kR : Hid (Row w12 (w1.heap.size) 28 [.int .i64 4, .int .i64 1, .int .i64 1, .slice (some ad) 2 pc]) := (rowCells RP.out B_wb.out)
  have k0 := kR.out.cell 0
  have k1 := kR.out.cell 1
  have k2 := kR.out.cell 2
  have k3 := kR.out.cell 3
  have kl := kR.out.lt
  simp only [List.getElem?_cons_zero, List.getElem?_cons_succ] at k0 k1 k2 k3
  clear kR
  go_wp2_with fail
  have HC := plRight_any pEx (some ad) 2 pc sl w12 (HP.out.up B_w1.out)
  rw [ex16] at HC
  refine HC.mono ?_
  clear HC
  rintro e w13 ⟨rfl, hb⟩
  have B_w : Hid (Below w.heap.size w w13) := below_on2 B_w.out hb
  have B_wa : Hid (Below wa.heap.size wa w13) := below_on2 B_wa.out hb
  have B_w1 : Hid (Below w1.heap.size w1 w13) := below_on2 B_w1.out hb
  have B_wb : Hid (Below wb.heap.size wb w13) := below_on2 B_wb.out hb
  have B_w2 : Hid (Below w2.heap.size w2 w13) := below_on2 B_w2.out hb
  have B_wc : Hid (Below wc.heap.size wc w13) := below_on2 B_wc.out hb
  have B_w3 : Hid (Below w3.heap.size w3 w13) := below_on2 B_w3.out hb
  have B_wd : Hid (Below wd.heap.size wd w13) := below_on2 B_wd.out hb
  have B_w4 : Hid (Below w4.heap.size w4 w13) := below_on2 B_w4.out hb
  have B_we : Hid (Below we.heap.size we w13) := below_on2 B_we.out hb
  have B_w5 : Hid (Below w5.heap.size w5 w13) := below_on2 B_w5.out hb
  have B_wg : Hid (Below wg.heap.size wg w13) := below_on2 B_wg.out hb
  have B_w8 : Hid (Below w8.heap.size w8 w13) := below_on2 B_w8.out hb
  have B_wi : Hid (Below wi.heap.size wi w13) := below_on2 B_wi.out hb
  have B_w9 : Hid (Below w9.heap.size w9 w13) := below_on2 B_w9.out hb
  have B_wj : Hid (Below wj.heap.size wj w13) := below_on2 B_wj.out hb
  have B_w10 : Hid (Below w10.heap.size w10 w13) := below_on2 B_w10.out hb
  have B_wk : Hid (Below wk.heap.size wk w13) := below_on2 B_wk.out hb
  have B_w11 : Hid (Below w11.heap.size w11 w13) := below_on2 B_w11.out hb
  have B_wl : Hid (Below wl.heap.size wl w13) := below_on2 B_wl.out hb
  have B_w12 : Hid (Below w12.heap.size w12 w13) := hb
  clear k0 k1 k2 k3 kl
  clear hb
  have kR : Hid (Row w13 (w1.heap.size) 28 [.int .i64 4, .int .i64 1, .int .i64 1, .slice (some ad) 2 pc]) := (rowCells RP.out B_wb.out)
  have k0 := kR.out.cell 0
  have k1 := kR.out.cell 1
  have k2 := kR.out.cell 2
  have k3 := kR.out.cell 3
  have kl := kR.out.lt
  simp only [List.getElem?_cons_zero, List.getElem?_cons_succ] at k0 k1 k2 k3
  clear kR
  go_wp2_with fail
  have HC := plSame_any pEx pEx (some ad) (some ad) 2 pc 2 pc sl sl w13 (HP.out.up B_w1.out) (HP.out.up B_w1.out)
  rw [samePl_self] at HC
  refine HC.mono ?_
  clear HC
  rintro e w14 ⟨rfl, hb⟩
  have B_w : Hid (Below w.heap.size w w14) := below_on2 B_w.out hb
  have B_wa : Hid (Below wa.heap.size wa w14) := below_on2 B_wa.out hb
  have B_w1 : Hid (Below w1.heap.size w1 w14) := below_on2 B_w1.out hb
  have B_wb : Hid (Below wb.heap.size wb w14) := below_on2 B_wb.out hb
  have B_w2 : Hid (Below w2.heap.size w2 w14) := below_on2 B_w2.out hb
  have B_wc : Hid (Below wc.heap.size wc w14) := below_on2 B_wc.out hb
  have B_w3 : Hid (Below w3.heap.size w3 w14) := below_on2 B_w3.out hb
  have B_wd : Hid (Below wd.heap.size wd w14) := below_on2 B_wd.out hb
  have B_w4 : Hid (Below w4.heap.size w4 w14) := below_on2 B_w4.out hb
  have B_we : Hid (Below we.heap.size we w14) := below_on2 B_we.out hb
  have B_w5 : Hid (Below w5.heap.size w5 w14) := below_on2 B_w5.out hb
  have B_wg : Hid (Below wg.heap.size wg w14) := below_on2 B_wg.out hb
  have B_w8 : Hid (Below w8.heap.size w8 w14) := below_on2 B_w8.out hb
  have B_wi : Hid (Below wi.heap.size wi w14) := below_on2 B_wi.out hb
  have B_w9 : Hid (Below w9.heap.size w9 w14) := below_on2 B_w9.out hb
  have B_wj : Hid (Below wj.heap.size wj w14) := below_on2 B_wj.out hb
  have B_w10 : Hid (Below w10.heap.size w10 w14) := below_on2 B_w10.out hb
  have B_wk : Hid (Below wk.heap.size wk w14) := below_on2 B_wk.out hb
  have B_w11 : Hid (Below w11.heap.size w11 w14) := below_on2 B_w11.out hb
  have B_wl : Hid (Below wl.heap.size wl w14) := below_on2 B_wl.out hb
  have B_w12 : Hid (Below w12.heap.size w12 w14) := below_on2 B_w12.out hb
  have B_w13 : Hid (Below w13.heap.size w13 w14) := hb
  clear k0 k1 k2 k3 kl
  clear hb
  have kR : Hid (Row w14 (w1.heap.size) 28 [.int .i64 4, .int .i64 1, .int .i64 1, .slice (some ad) 2 pc]) := (rowCells RP.out B_wb.out)
  have k0 := kR.out.cell 0
  have k1 := kR.out.cell 1
  have k2 := kR.out.cell 2
  have k3 := kR.out.cell 3
  have kl := kR.out.lt
  simp only [List.getElem?_cons_zero, List.getElem?_cons_succ] at k0 k1 k2 k3
  clear kR
  have qR : Hid (Row w14 (w2.heap.size) 28 [.int .i64 4, .int .i64 1, .int .i64 1, .slice MA 2 mc]) := (rowCells RM.out B_wc.out)
  have q0 := qR.out.cell 0
  have q1 := qR.out.cell 1
  have q2 := qR.out.cell 2
  have q3 := qR.out.cell 3
  have ql := qR.out.lt
  simp only [List.getElem?_cons_zero, List.getElem?_cons_succ] at q0 q1 q2 q3
  clear qR
  go_wp2_with fail
  have HC := plSame_any pEx mEx (some ad) MA 2 pc 2 mc sl sm w14 (HP.out.up B_w1.out) (HM.out.up B_w2.out)
  rw [ex17] at HC
  refine HC.mono ?_
  clear HC
  rintro e w15 ⟨rfl, hb⟩
  have B_w : Hid (Below w.heap.size w w15) := below_on2 B_w.out hb
  have B_wa : Hid (Below wa.heap.size wa w15) := below_on2 B_wa.out hb
  have B_w1 : Hid (Below w1.heap.size w1 w15) := below_on2 B_w1.out hb
  have B_wb : Hid (Below wb.heap.size wb w15) := below_on2 B_wb.out hb
  have B_w2 : Hid (Below w2.heap.size w2 w15) := below_on2 B_w2.out hb
  have B_wc : Hid (Below wc.heap.size wc w15) := below_on2 B_wc.out hb
  have B_w3 : Hid (Below w3.heap.size w3 w15) := below_on2 B_w3.out hb
  have B_wd : Hid (Below wd.heap.size wd w15) := below_on2 B_wd.out hb
  have B_w4 : Hid (Below w4.heap.size w4 w15) := below_on2 B_w4.out hb
  have B_we : Hid (Below we.heap.size we w15) := below_on2 B_we.out hb
  have B_w5 : Hid (Below w5.heap.size w5 w15) := below_on2 B_w5.out hb
  have B_wg : Hid (Below wg.heap.size wg w15) := below_on2 B_wg.out hb
  have B_w8 : Hid (Below w8.heap.size w8 w15) := below_on2 B_w8.out hb
  have B_wi : Hid (Below wi.heap.size wi w15) := below_on2 B_wi.out hb
  have B_w9 : Hid (Below w9.heap.size w9 w15) := below_on2 B_w9.out hb
  have B_wj : Hid (Below wj.heap.size wj w15) := below_on2 B_wj.out hb
  have B_w10 : Hid (Below w10.heap.size w10 w15) := below_on2 B_w10.out hb
  have B_wk : Hid (Below wk.heap.size wk w15) := below_on2 B_wk.out hb
  have B_w11 : Hid (Below w11.heap.size w11 w15) := below_on2 B_w11.out hb
  have B_wl : Hid (Below wl.heap.size wl w15) := below_on2 B_wl.out hb
  have B_w12 : Hid (Below w12.heap.size w12 w15) := below_on2 B_w12.out hb
  have B_w13 : Hid (Below w13.heap.size w13 w15) := below_on2 B_w13.out hb
  have B_w14 : Hid (Below w14.heap.size w14 w15) := hb
  clear k0 k1 k2 k3 kl q0 q1 q2 q3 ql
  clear hb
  go_wp2
  go_ret
  exact ⟨rfl, B_w.out⟩
end Go.Proofs.Ytfknooffjhncgaa
