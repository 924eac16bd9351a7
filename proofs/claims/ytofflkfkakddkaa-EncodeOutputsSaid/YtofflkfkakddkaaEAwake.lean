/-
  The examples of the chapter on encoding: the law's alive, walked.
-/
import Derived.Test.YtofflkfkakddkaaECirc
import Derived.Test.YtofflkfkakddkaaEFix
import Derived.Test.YtofflkfkakddkaaESame
import Derived.Test.YtofflkfkakddkaaEEqual
namespace Go.Proofs.Ytofflkfkakddkaa
open Go.RowKit
set_option linter.unusedSimpArgs false
set_option linter.unusedVariables false
def exC : Circ := ⟨2, [⟨3, 0, 1⟩], [2]⟩
def exF : Fml := ⟨3, [[-3, 1], [-3, 2], [3, -1, -2]]⟩
def exG : Fml := ⟨4, [[-3, 1], [-3, 2], [3, -1, -2], [-4, 3], [-4, 3], [4, -3, -3]]⟩
def exX : Fml := ⟨3, [[-3, 1], [-3, 2], [3, -1, -2], [-3], [1]]⟩
def exY : Fml := ⟨3, [[-3, 1], [-3, 2], [3, -1, -2], [-1, 2], [1, -2]]⟩
theorem ex1 : circR exC = exF := by kernel_rfl
theorem ex2 : circErr exC = 0 := by kernel_rfl
theorem ex3 : placeR exF exC [3, 3] = exG := by kernel_rfl
theorem ex4 : placeOuts exF exC [3, 3] = [4] := by kernel_rfl
theorem ex5 : placeErr exF exC [3, 3] = 0 := by kernel_rfl
theorem ex6 : fixR exF [3, 1] [false, true] = exX := by kernel_rfl
theorem ex7 : fixErr exF [3, 1] [false, true] = 0 := by kernel_rfl
theorem ex8 : eqR exF [1] [2] = exY := by kernel_rfl
theorem ex9 : eqErr exF [1] [2] = 0 := by kernel_rfl
theorem ex10 : fixR exF [4] [true] = noFml := by kernel_rfl
theorem ex11 : fixErr exF [4] [true] = 2 := by kernel_rfl
theorem FAt.own {w : World} {f : Fml} {A : Option Addr} {n : Nat} {sl : List Sl} (h : FAt w f A n sl) : ∀ i, i < f.cls.length → Rd w w.heap.size 1 (sl.getD i default).at_ (sl.getD i default).len (ints (f.cls.getD i [])) ∧ (sl.getD i default).len ≤ maxLen := h.next
set_option maxRecDepth 100000 in
set_option maxHeartbeats 6000000 in
theorem alive_any (w : World) : Calls Try.prog 10 #[] w fun e w' => e = .returned (.bool true) ∧ Below w.heap.size w w' := by
  go_enter Try.func10, Try.ntmps10
  go_wp2_with fail
  have G0 : Hid (Row (World.alloc (World.alloc (World.alloc w (.cells #[.int .i64 3, .int .i64 0, .int .i64 1] 49)) (.cells #[.int .i64 2] 3)) (.cells #[.int .i64 2, .slice (some ⟨w.heap.size, 0, none⟩) 1 1, .slice (some ⟨w.heap.size + 1, 0, none⟩) 1 1] 25)) (w.heap.size) 49 [.int .i64 3, .int .i64 0, .int .i64 1]) := by
    have h0 := Row.new w 49 [.int .i64 3, .int .i64 0, .int .i64 1]
    try simp only [World.size_alloc] at h0
    exact ((h0.alloc _).alloc _)
  have O0 : Hid (Row (World.alloc (World.alloc (World.alloc w (.cells #[.int .i64 3, .int .i64 0, .int .i64 1] 49)) (.cells #[.int .i64 2] 3)) (.cells #[.int .i64 2, .slice (some ⟨w.heap.size, 0, none⟩) 1 1, .slice (some ⟨w.heap.size + 1, 0, none⟩) 1 1] 25)) (w.heap.size + 1) 3 [.int .i64 2]) := by
    have h0 := Row.new (World.alloc w (.cells #[.int .i64 3, .int .i64 0, .int .i64 1] 49)) 3 [.int .i64 2]
    try simp only [World.size_alloc] at h0
    exact (h0.alloc _)
  have C1 : Hid (Row (World.alloc (World.alloc (World.alloc w (.cells #[.int .i64 3, .int .i64 0, .int .i64 1] 49)) (.cells #[.int .i64 2] 3)) (.cells #[.int .i64 2, .slice (some ⟨w.heap.size, 0, none⟩) 1 1, .slice (some ⟨w.heap.size + 1, 0, none⟩) 1 1] 25)) (w.heap.size + 1 + 1) 25 [.int .i64 2, .slice (some ⟨w.heap.size, 0, none⟩) 1 1, .slice (some ⟨w.heap.size + 1, 0, none⟩) 1 1]) := by
    have h0 := Row.new (World.alloc (World.alloc w (.cells #[.int .i64 3, .int .i64 0, .int .i64 1] 49)) (.cells #[.int .i64 2] 3)) 25 [.int .i64 2, .slice (some ⟨w.heap.size, 0, none⟩) 1 1, .slice (some ⟨w.heap.size + 1, 0, none⟩) 1 1]
    try simp only [World.size_alloc] at h0
    exact h0
  have hgr9 : Below w.heap.size w (World.alloc (World.alloc (World.alloc w (.cells #[.int .i64 3, .int .i64 0, .int .i64 1] 49)) (.cells #[.int .i64 2] 3)) (.cells #[.int .i64 2, .slice (some ⟨w.heap.size, 0, none⟩) 1 1, .slice (some ⟨w.heap.size + 1, 0, none⟩) 1 1] 25)) := by go_grown
  have B_w : Hid (Below w.heap.size w (World.alloc (World.alloc (World.alloc w (.cells #[.int .i64 3, .int .i64 0, .int .i64 1] 49)) (.cells #[.int .i64 2] 3)) (.cells #[.int .i64 2, .slice (some ⟨w.heap.size, 0, none⟩) 1 1, .slice (some ⟨w.heap.size + 1, 0, none⟩) 1 1] 25))) := hgr9
  clear hgr9
  revert G0 O0 C1 B_w
  generalize (World.alloc (World.alloc (World.alloc w (.cells #[.int .i64 3, .int .i64 0, .int .i64 1] 49)) (.cells #[.int .i64 2] 3)) (.cells #[.int .i64 2, .slice (some ⟨w.heap.size, 0, none⟩) 1 1, .slice (some ⟨w.heap.size + 1, 0, none⟩) 1 1] 25)) = wa
  intro G0 O0 C1 B_w
  have HC : Hid (CAt wa exC (some ⟨w.heap.size, 0, none⟩) (some ⟨w.heap.size + 1, 0, none⟩) 1 1) := ⟨G0.out.rd rfl, O0.out.rd rfl, by unfold maxLen; omega, by unfold maxLen; omega⟩
  have HCT := eCirc_any exC (some ⟨w.heap.size, 0, none⟩) (some ⟨w.heap.size + 1, 0, none⟩) 1 1 1 1 wa HC.out
  rw [ex1, ex2] at HCT
  refine HCT.mono ?_
  clear HCT
  rintro e w1 ⟨FA, fn, fx, sf, he, hfa, hb⟩
  have he2 : e = .returned (.tuple #[.agg #[.int .i64 3, .slice FA fn fx], .int .i64 0]) := he
  subst he2
  obtain rfl : 3 = fn := hfa.wl
  have HF : Hid (FAt w1 exF FA 3 sf) := hfa
  clear he hfa
  have B_w : Hid (Below w.heap.size w w1) := below_on2 B_w.out hb
  have B_wa : Hid (Below wa.heap.size wa w1) := hb
  clear hb
  have kR : Hid (Row w1 (w.heap.size + 1 + 1) 25 [.int .i64 2, .slice (some ⟨w.heap.size, 0, none⟩) 1 1, .slice (some ⟨w.heap.size + 1, 0, none⟩) 1 1]) := (rowCells C1.out B_wa.out)
  have k0 := kR.out.cell 0
  have k1 := kR.out.cell 1
  have k2 := kR.out.cell 2
  have kl := kR.out.lt
  simp only [List.getElem?_cons_zero, List.getElem?_cons_succ] at k0 k1 k2
  clear kR
  go_wp2_with fail
  have R2 : Hid (Row (World.alloc (World.alloc w1 (.cells #[.int .i64 3, .slice FA 3 fx] 30)) (.cells #[.int .i64 3, .int .i64 3] 3)) (w1.heap.size) 30 [.int .i64 3, .slice FA 3 fx]) := by
    have h0 := Row.new w1 30 [.int .i64 3, .slice FA 3 fx]
    try simp only [World.size_alloc] at h0
    exact (h0.alloc _)
  have L1 : Hid (Row (World.alloc (World.alloc w1 (.cells #[.int .i64 3, .slice FA 3 fx] 30)) (.cells #[.int .i64 3, .int .i64 3] 3)) (w1.heap.size + 1) 3 [.int .i64 3, .int .i64 3]) := by
    have h0 := Row.new (World.alloc w1 (.cells #[.int .i64 3, .slice FA 3 fx] 30)) 3 [.int .i64 3, .int .i64 3]
    try simp only [World.size_alloc] at h0
    exact h0
  have hgr9 : Below w1.heap.size w1 (World.alloc (World.alloc w1 (.cells #[.int .i64 3, .slice FA 3 fx] 30)) (.cells #[.int .i64 3, .int .i64 3] 3)) := by go_grown
  have B_w : Hid (Below w.heap.size w (World.alloc (World.alloc w1 (.cells #[.int .i64 3, .slice FA 3 fx] 30)) (.cells #[.int .i64 3, .int .i64 3] 3))) := below_on2 B_w.out hgr9
  have B_wa : Hid (Below wa.heap.size wa (World.alloc (World.alloc w1 (.cells #[.int .i64 3, .slice FA 3 fx] 30)) (.cells #[.int .i64 3, .int .i64 3] 3))) := below_on2 B_wa.out hgr9
  have B_w1 : Hid (Below w1.heap.size w1 (World.alloc (World.alloc w1 (.cells #[.int .i64 3, .slice FA 3 fx] 30)) (.cells #[.int .i64 3, .int .i64 3] 3))) := hgr9
  clear hgr9
  clear k0 k1 k2 kl
  revert R2 L1 B_w B_wa B_w1
  generalize (World.alloc (World.alloc w1 (.cells #[.int .i64 3, .slice FA 3 fx] 30)) (.cells #[.int .i64 3, .int .i64 3] 3)) = wb
  intro R2 L1 B_w B_wa B_w1
  have HCT := ePlace_any exF exC [3, 3] FA (some ⟨w.heap.size, 0, none⟩) (some ⟨w.heap.size + 1, 0, none⟩) (some ⟨w1.heap.size + 1, 0, none⟩) 3 fx 1 1 1 1 2 2 sf wb (HF.out.up B_w1.out) (HC.out.up B_wa.out) (L1.out.rd rfl) (by unfold maxLen; omega) wb.heap.size (Nat.le_refl _) ((HF.out.up B_w1.out).next)
  rw [ex3, ex4, ex5] at HCT
  refine HCT.mono ?_
  clear HCT
  rintro e w2 ⟨PA, pn, pc, sp, QA, qn, qc, he, hpl, hE, hO, hqn, hb⟩
  have he2 : e = .returned (.tuple #[.agg #[.int .i64 4, .slice PA pn pc], .slice QA qn qc, .int .i64 0]) := he
  subst he2
  obtain rfl : 6 = pn := hpl.1
  have hq1 := hO.1
  obtain rfl : 1 = qn := by simpa using hq1
  have HP : Hid (FAt w2 exG PA 6 sp) := hE.fat hb.size rfl (by unfold maxLen; omega)
  have HQ : Hid (Rd w2 w2.heap.size 1 QA 1 (ints [4])) := Rd.of_own hO
  clear he hpl hE hO hqn hq1
  have B_w : Hid (Below w.heap.size w w2) := below_on2 B_w.out hb
  have B_wa : Hid (Below wa.heap.size wa w2) := below_on2 B_wa.out hb
  have B_w1 : Hid (Below w1.heap.size w1 w2) := below_on2 B_w1.out hb
  have B_wb : Hid (Below wb.heap.size wb w2) := hb
  clear hb
  have kR : Hid (Row w2 (w1.heap.size) 30 [.int .i64 3, .slice FA 3 fx]) := (rowCells R2.out B_wb.out)
  have k0 := kR.out.cell 0
  have k1 := kR.out.cell 1
  have kl := kR.out.lt
  simp only [List.getElem?_cons_zero, List.getElem?_cons_succ] at k0 k1
  clear kR
  go_wp2_with fail
  have R4 : Hid (Row (World.alloc (World.alloc (World.alloc w2 (.cells #[.int .i64 4, .slice PA 6 pc] 30)) (.cells #[.int .i64 3, .int .i64 1] 3)) (.cells #[.bool false, .bool true] 4)) (w2.heap.size) 30 [.int .i64 4, .slice PA 6 pc]) := by
    have h0 := Row.new w2 30 [.int .i64 4, .slice PA 6 pc]
    try simp only [World.size_alloc] at h0
    exact ((h0.alloc _).alloc _)
  have L1 : Hid (Row (World.alloc (World.alloc (World.alloc w2 (.cells #[.int .i64 4, .slice PA 6 pc] 30)) (.cells #[.int .i64 3, .int .i64 1] 3)) (.cells #[.bool false, .bool true] 4)) (w2.heap.size + 1) 3 [.int .i64 3, .int .i64 1]) := by
    have h0 := Row.new (World.alloc w2 (.cells #[.int .i64 4, .slice PA 6 pc] 30)) 3 [.int .i64 3, .int .i64 1]
    try simp only [World.size_alloc] at h0
    exact (h0.alloc _)
  have L2 : Hid (Row (World.alloc (World.alloc (World.alloc w2 (.cells #[.int .i64 4, .slice PA 6 pc] 30)) (.cells #[.int .i64 3, .int .i64 1] 3)) (.cells #[.bool false, .bool true] 4)) (w2.heap.size + 1 + 1) 4 [.bool false, .bool true]) := by
    have h0 := Row.new (World.alloc (World.alloc w2 (.cells #[.int .i64 4, .slice PA 6 pc] 30)) (.cells #[.int .i64 3, .int .i64 1] 3)) 4 [.bool false, .bool true]
    try simp only [World.size_alloc] at h0
    exact h0
  have hgr9 : Below w2.heap.size w2 (World.alloc (World.alloc (World.alloc w2 (.cells #[.int .i64 4, .slice PA 6 pc] 30)) (.cells #[.int .i64 3, .int .i64 1] 3)) (.cells #[.bool false, .bool true] 4)) := by go_grown
  have B_w : Hid (Below w.heap.size w (World.alloc (World.alloc (World.alloc w2 (.cells #[.int .i64 4, .slice PA 6 pc] 30)) (.cells #[.int .i64 3, .int .i64 1] 3)) (.cells #[.bool false, .bool true] 4))) := below_on2 B_w.out hgr9
  have B_wa : Hid (Below wa.heap.size wa (World.alloc (World.alloc (World.alloc w2 (.cells #[.int .i64 4, .slice PA 6 pc] 30)) (.cells #[.int .i64 3, .int .i64 1] 3)) (.cells #[.bool false, .bool true] 4))) := below_on2 B_wa.out hgr9
  have B_w1 : Hid (Below w1.heap.size w1 (World.alloc (World.alloc (World.alloc w2 (.cells #[.int .i64 4, .slice PA 6 pc] 30)) (.cells #[.int .i64 3, .int .i64 1] 3)) (.cells #[.bool false, .bool true] 4))) := below_on2 B_w1.out hgr9
  have B_wb : Hid (Below wb.heap.size wb (World.alloc (World.alloc (World.alloc w2 (.cells #[.int .i64 4, .slice PA 6 pc] 30)) (.cells #[.int .i64 3, .int .i64 1] 3)) (.cells #[.bool false, .bool true] 4))) := below_on2 B_wb.out hgr9
  have B_w2 : Hid (Below w2.heap.size w2 (World.alloc (World.alloc (World.alloc w2 (.cells #[.int .i64 4, .slice PA 6 pc] 30)) (.cells #[.int .i64 3, .int .i64 1] 3)) (.cells #[.bool false, .bool true] 4))) := hgr9
  clear hgr9
  clear k0 k1 kl
  revert R4 L1 L2 B_w B_wa B_w1 B_wb B_w2
  generalize (World.alloc (World.alloc (World.alloc w2 (.cells #[.int .i64 4, .slice PA 6 pc] 30)) (.cells #[.int .i64 3, .int .i64 1] 3)) (.cells #[.bool false, .bool true] 4)) = wc
  intro R4 L1 L2 B_w B_wa B_w1 B_wb B_w2
  have HCT := eFix_any exF [3, 1] [false, true] FA (some ⟨w2.heap.size + 1, 0, none⟩) (some ⟨w2.heap.size + 1 + 1, 0, none⟩) 3 fx 2 2 2 2 sf wc (HF.out.up B_w1.out) (L1.out.rd rfl) (L2.out.rd rfl) (by omega) (by omega) (by unfold maxLen; omega)
  rw [ex6, ex7] at HCT
  refine HCT.mono ?_
  clear HCT
  rintro e w3 ⟨XA, xn, xx, sx, he, hfa, hb⟩
  have he2 : e = .returned (.tuple #[.agg #[.int .i64 3, .slice XA xn xx], .int .i64 0]) := he
  subst he2
  obtain rfl : 5 = xn := hfa.wl
  have HX : Hid (FAt w3 exX XA 5 sx) := hfa
  clear he hfa
  have B_w : Hid (Below w.heap.size w w3) := below_on2 B_w.out hb
  have B_wa : Hid (Below wa.heap.size wa w3) := below_on2 B_wa.out hb
  have B_w1 : Hid (Below w1.heap.size w1 w3) := below_on2 B_w1.out hb
  have B_wb : Hid (Below wb.heap.size wb w3) := below_on2 B_wb.out hb
  have B_w2 : Hid (Below w2.heap.size w2 w3) := below_on2 B_w2.out hb
  have B_wc : Hid (Below wc.heap.size wc w3) := hb
  clear hb
  have kR : Hid (Row w3 (w1.heap.size) 30 [.int .i64 3, .slice FA 3 fx]) := (rowCells R2.out B_wb.out)
  have k0 := kR.out.cell 0
  have k1 := kR.out.cell 1
  have kl := kR.out.lt
  simp only [List.getElem?_cons_zero, List.getElem?_cons_succ] at k0 k1
  clear kR
  go_wp2_with fail
  have R7 : Hid (Row (World.alloc (World.alloc (World.alloc w3 (.cells #[.int .i64 3, .slice XA 5 xx] 30)) (.cells #[.int .i64 1] 3)) (.cells #[.int .i64 2] 3)) (w3.heap.size) 30 [.int .i64 3, .slice XA 5 xx]) := by
    have h0 := Row.new w3 30 [.int .i64 3, .slice XA 5 xx]
    try simp only [World.size_alloc] at h0
    exact ((h0.alloc _).alloc _)
  have L1 : Hid (Row (World.alloc (World.alloc (World.alloc w3 (.cells #[.int .i64 3, .slice XA 5 xx] 30)) (.cells #[.int .i64 1] 3)) (.cells #[.int .i64 2] 3)) (w3.heap.size + 1) 3 [.int .i64 1]) := by
    have h0 := Row.new (World.alloc w3 (.cells #[.int .i64 3, .slice XA 5 xx] 30)) 3 [.int .i64 1]
    try simp only [World.size_alloc] at h0
    exact (h0.alloc _)
  have L2 : Hid (Row (World.alloc (World.alloc (World.alloc w3 (.cells #[.int .i64 3, .slice XA 5 xx] 30)) (.cells #[.int .i64 1] 3)) (.cells #[.int .i64 2] 3)) (w3.heap.size + 1 + 1) 3 [.int .i64 2]) := by
    have h0 := Row.new (World.alloc (World.alloc w3 (.cells #[.int .i64 3, .slice XA 5 xx] 30)) (.cells #[.int .i64 1] 3)) 3 [.int .i64 2]
    try simp only [World.size_alloc] at h0
    exact h0
  have hgr9 : Below w3.heap.size w3 (World.alloc (World.alloc (World.alloc w3 (.cells #[.int .i64 3, .slice XA 5 xx] 30)) (.cells #[.int .i64 1] 3)) (.cells #[.int .i64 2] 3)) := by go_grown
  have B_w : Hid (Below w.heap.size w (World.alloc (World.alloc (World.alloc w3 (.cells #[.int .i64 3, .slice XA 5 xx] 30)) (.cells #[.int .i64 1] 3)) (.cells #[.int .i64 2] 3))) := below_on2 B_w.out hgr9
  have B_wa : Hid (Below wa.heap.size wa (World.alloc (World.alloc (World.alloc w3 (.cells #[.int .i64 3, .slice XA 5 xx] 30)) (.cells #[.int .i64 1] 3)) (.cells #[.int .i64 2] 3))) := below_on2 B_wa.out hgr9
  have B_w1 : Hid (Below w1.heap.size w1 (World.alloc (World.alloc (World.alloc w3 (.cells #[.int .i64 3, .slice XA 5 xx] 30)) (.cells #[.int .i64 1] 3)) (.cells #[.int .i64 2] 3))) := below_on2 B_w1.out hgr9
  have B_wb : Hid (Below wb.heap.size wb (World.alloc (World.alloc (World.alloc w3 (.cells #[.int .i64 3, .slice XA 5 xx] 30)) (.cells #[.int .i64 1] 3)) (.cells #[.int .i64 2] 3))) := below_on2 B_wb.out hgr9
  have B_w2 : Hid (Below w2.heap.size w2 (World.alloc (World.alloc (World.alloc w3 (.cells #[.int .i64 3, .slice XA 5 xx] 30)) (.cells #[.int .i64 1] 3)) (.cells #[.int .i64 2] 3))) := below_on2 B_w2.out hgr9
  have B_wc : Hid (Below wc.heap.size wc (World.alloc (World.alloc (World.alloc w3 (.cells #[.int .i64 3, .slice XA 5 xx] 30)) (.cells #[.int .i64 1] 3)) (.cells #[.int .i64 2] 3))) := below_on2 B_wc.out hgr9
  have B_w3 : Hid (Below w3.heap.size w3 (World.alloc (World.alloc (World.alloc w3 (.cells #[.int .i64 3, .slice XA 5 xx] 30)) (.cells #[.int .i64 1] 3)) (.cells #[.int .i64 2] 3))) := hgr9
  clear hgr9
  clear k0 k1 kl
  revert R7 L1 L2 B_w B_wa B_w1 B_wb B_w2 B_wc B_w3
  generalize (World.alloc (World.alloc (World.alloc w3 (.cells #[.int .i64 3, .slice XA 5 xx] 30)) (.cells #[.int .i64 1] 3)) (.cells #[.int .i64 2] 3)) = wd
  intro R7 L1 L2 B_w B_wa B_w1 B_wb B_w2 B_wc B_w3
  have HCT := eEq_any exF [1] [2] FA (some ⟨w3.heap.size + 1, 0, none⟩) (some ⟨w3.heap.size + 1 + 1, 0, none⟩) 3 fx 1 1 1 1 sf wd (HF.out.up B_w1.out) (L1.out.rd rfl) (L2.out.rd rfl) (by omega) (by omega) (by omega)
  rw [ex8, ex9] at HCT
  refine HCT.mono ?_
  clear HCT
  rintro e w4 ⟨YA, yn, yx, sy, he, hfa, hb⟩
  have he2 : e = .returned (.tuple #[.agg #[.int .i64 3, .slice YA yn yx], .int .i64 0]) := he
  subst he2
  obtain rfl : 5 = yn := hfa.wl
  have HY : Hid (FAt w4 exY YA 5 sy) := hfa
  clear he hfa
  have B_w : Hid (Below w.heap.size w w4) := below_on2 B_w.out hb
  have B_wa : Hid (Below wa.heap.size wa w4) := below_on2 B_wa.out hb
  have B_w1 : Hid (Below w1.heap.size w1 w4) := below_on2 B_w1.out hb
  have B_wb : Hid (Below wb.heap.size wb w4) := below_on2 B_wb.out hb
  have B_w2 : Hid (Below w2.heap.size w2 w4) := below_on2 B_w2.out hb
  have B_wc : Hid (Below wc.heap.size wc w4) := below_on2 B_wc.out hb
  have B_w3 : Hid (Below w3.heap.size w3 w4) := below_on2 B_w3.out hb
  have B_wd : Hid (Below wd.heap.size wd w4) := hb
  clear hb
  have kR : Hid (Row w4 (w1.heap.size) 30 [.int .i64 3, .slice FA 3 fx]) := (rowCells R2.out B_wb.out)
  have k0 := kR.out.cell 0
  have k1 := kR.out.cell 1
  have kl := kR.out.lt
  simp only [List.getElem?_cons_zero, List.getElem?_cons_succ] at k0 k1
  clear kR
  go_wp2_with fail
  have R9 : Hid (Row (World.alloc (World.alloc (World.alloc w4 (.cells #[.int .i64 3, .slice YA 5 yx] 30)) (.cells #[.int .i64 4] 3)) (.cells #[.bool true] 4)) (w4.heap.size) 30 [.int .i64 3, .slice YA 5 yx]) := by
    have h0 := Row.new w4 30 [.int .i64 3, .slice YA 5 yx]
    try simp only [World.size_alloc] at h0
    exact ((h0.alloc _).alloc _)
  have L1 : Hid (Row (World.alloc (World.alloc (World.alloc w4 (.cells #[.int .i64 3, .slice YA 5 yx] 30)) (.cells #[.int .i64 4] 3)) (.cells #[.bool true] 4)) (w4.heap.size + 1) 3 [.int .i64 4]) := by
    have h0 := Row.new (World.alloc w4 (.cells #[.int .i64 3, .slice YA 5 yx] 30)) 3 [.int .i64 4]
    try simp only [World.size_alloc] at h0
    exact (h0.alloc _)
  have L2 : Hid (Row (World.alloc (World.alloc (World.alloc w4 (.cells #[.int .i64 3, .slice YA 5 yx] 30)) (.cells #[.int .i64 4] 3)) (.cells #[.bool true] 4)) (w4.heap.size + 1 + 1) 4 [.bool true]) := by
    have h0 := Row.new (World.alloc (World.alloc w4 (.cells #[.int .i64 3, .slice YA 5 yx] 30)) (.cells #[.int .i64 4] 3)) 4 [.bool true]
    try simp only [World.size_alloc] at h0
    exact h0
  have hgr9 : Below w4.heap.size w4 (World.alloc (World.alloc (World.alloc w4 (.cells #[.int .i64 3, .slice YA 5 yx] 30)) (.cells #[.int .i64 4] 3)) (.cells #[.bool true] 4)) := by go_grown
  have B_w : Hid (Below w.heap.size w (World.alloc (World.alloc (World.alloc w4 (.cells #[.int .i64 3, .slice YA 5 yx] 30)) (.cells #[.int .i64 4] 3)) (.cells #[.bool true] 4))) := below_on2 B_w.out hgr9
  have B_wa : Hid (Below wa.heap.size wa (World.alloc (World.alloc (World.alloc w4 (.cells #[.int .i64 3, .slice YA 5 yx] 30)) (.cells #[.int .i64 4] 3)) (.cells #[.bool true] 4))) := below_on2 B_wa.out hgr9
  have B_w1 : Hid (Below w1.heap.size w1 (World.alloc (World.alloc (World.alloc w4 (.cells #[.int .i64 3, .slice YA 5 yx] 30)) (.cells #[.int .i64 4] 3)) (.cells #[.bool true] 4))) := below_on2 B_w1.out hgr9
  have B_wb : Hid (Below wb.heap.size wb (World.alloc (World.alloc (World.alloc w4 (.cells #[.int .i64 3, .slice YA 5 yx] 30)) (.cells #[.int .i64 4] 3)) (.cells #[.bool true] 4))) := below_on2 B_wb.out hgr9
  have B_w2 : Hid (Below w2.heap.size w2 (World.alloc (World.alloc (World.alloc w4 (.cells #[.int .i64 3, .slice YA 5 yx] 30)) (.cells #[.int .i64 4] 3)) (.cells #[.bool true] 4))) := below_on2 B_w2.out hgr9
  have B_wc : Hid (Below wc.heap.size wc (World.alloc (World.alloc (World.alloc w4 (.cells #[.int .i64 3, .slice YA 5 yx] 30)) (.cells #[.int .i64 4] 3)) (.cells #[.bool true] 4))) := below_on2 B_wc.out hgr9
  have B_w3 : Hid (Below w3.heap.size w3 (World.alloc (World.alloc (World.alloc w4 (.cells #[.int .i64 3, .slice YA 5 yx] 30)) (.cells #[.int .i64 4] 3)) (.cells #[.bool true] 4))) := below_on2 B_w3.out hgr9
  have B_wd : Hid (Below wd.heap.size wd (World.alloc (World.alloc (World.alloc w4 (.cells #[.int .i64 3, .slice YA 5 yx] 30)) (.cells #[.int .i64 4] 3)) (.cells #[.bool true] 4))) := below_on2 B_wd.out hgr9
  have B_w4 : Hid (Below w4.heap.size w4 (World.alloc (World.alloc (World.alloc w4 (.cells #[.int .i64 3, .slice YA 5 yx] 30)) (.cells #[.int .i64 4] 3)) (.cells #[.bool true] 4))) := hgr9
  clear hgr9
  clear k0 k1 kl
  revert R9 L1 L2 B_w B_wa B_w1 B_wb B_w2 B_wc B_w3 B_wd B_w4
  generalize (World.alloc (World.alloc (World.alloc w4 (.cells #[.int .i64 3, .slice YA 5 yx] 30)) (.cells #[.int .i64 4] 3)) (.cells #[.bool true] 4)) = we
  intro R9 L1 L2 B_w B_wa B_w1 B_wb B_w2 B_wc B_w3 B_wd B_w4
  have HCT := eFix_any exF [4] [true] FA (some ⟨w4.heap.size + 1, 0, none⟩) (some ⟨w4.heap.size + 1 + 1, 0, none⟩) 3 fx 1 1 1 1 sf we (HF.out.up B_w1.out) (L1.out.rd rfl) (L2.out.rd rfl) (by omega) (by omega) (by unfold maxLen; omega)
  rw [ex10, ex11] at HCT
  refine HCT.mono ?_
  clear HCT
  rintro e w5 ⟨NA, nn, nx, sn, he, hfa, hb⟩
  have he2 : e = .returned (.tuple #[.agg #[.int .i64 0, .slice NA nn nx], .int .i64 2]) := he
  subst he2
  clear he hfa
  have B_w : Hid (Below w.heap.size w w5) := below_on2 B_w.out hb
  have B_wa : Hid (Below wa.heap.size wa w5) := below_on2 B_wa.out hb
  have B_w1 : Hid (Below w1.heap.size w1 w5) := below_on2 B_w1.out hb
  have B_wb : Hid (Below wb.heap.size wb w5) := below_on2 B_wb.out hb
  have B_w2 : Hid (Below w2.heap.size w2 w5) := below_on2 B_w2.out hb
  have B_wc : Hid (Below wc.heap.size wc w5) := below_on2 B_wc.out hb
  have B_w3 : Hid (Below w3.heap.size w3 w5) := below_on2 B_w3.out hb
  have B_wd : Hid (Below wd.heap.size wd w5) := below_on2 B_wd.out hb
  have B_w4 : Hid (Below w4.heap.size w4 w5) := below_on2 B_w4.out hb
  have B_we : Hid (Below we.heap.size we w5) := hb
  clear hb
  have kR : Hid (Row w5 (w1.heap.size) 30 [.int .i64 3, .slice FA 3 fx]) := (rowCells R2.out B_wb.out)
  have k0 := kR.out.cell 0
  have k1 := kR.out.cell 1
  have kl := kR.out.lt
  simp only [List.getElem?_cons_zero, List.getElem?_cons_succ] at k0 k1
  clear kR
  have RC6 : Hid (Row (World.alloc (World.alloc (World.alloc (World.alloc (World.alloc (World.alloc w5 (.cells #[.int .i64 0, .slice NA nn nx] 30)) (.cells #[.int .i64 (-3), .int .i64 1] 3)) (.cells #[.int .i64 (-3), .int .i64 2] 3)) (.cells #[.int .i64 3, .int .i64 (-1), .int .i64 (-2)] 3)) (.cells #[.slice (some ⟨w5.heap.size + 1, 0, none⟩) 2 2, .slice (some ⟨w5.heap.size + 1 + 1, 0, none⟩) 2 2, .slice (some ⟨w5.heap.size + 1 + 1 + 1, 0, none⟩) 3 3] 23)) (.cells #[.int .i64 3, .slice (some ⟨w5.heap.size + 1 + 1 + 1 + 1, 0, none⟩) 3 3] 30)) w1.heap.size 30 [.int .i64 3, .slice FA 3 fx]) := (Row.alloc (Row.alloc (Row.alloc (Row.alloc (Row.alloc (Row.alloc (rowCells R2.out B_wb.out) _) _) _) _) _) _)
  have g0 := RC6.out.cell 0
  have g1 := RC6.out.cell 1
  have gl := RC6.out.lt
  simp only [List.getElem?_cons_zero, List.getElem?_cons_succ] at g0 g1
  go_wp2_with fail
  clear g0 g1 gl RC6
  have L1 : Hid (Row (World.alloc (World.alloc (World.alloc (World.alloc (World.alloc (World.alloc w5 (.cells #[.int .i64 0, .slice NA nn nx] 30)) (.cells #[.int .i64 (-3), .int .i64 1] 3)) (.cells #[.int .i64 (-3), .int .i64 2] 3)) (.cells #[.int .i64 3, .int .i64 (-1), .int .i64 (-2)] 3)) (.cells #[.slice (some ⟨w5.heap.size + 1, 0, none⟩) 2 2, .slice (some ⟨w5.heap.size + 1 + 1, 0, none⟩) 2 2, .slice (some ⟨w5.heap.size + 1 + 1 + 1, 0, none⟩) 3 3] 23)) (.cells #[.int .i64 3, .slice (some ⟨w5.heap.size + 1 + 1 + 1 + 1, 0, none⟩) 3 3] 30)) (w5.heap.size + 1) 3 [.int .i64 (-3), .int .i64 1]) := by
    have h0 := Row.new (World.alloc w5 (.cells #[.int .i64 0, .slice NA nn nx] 30)) 3 [.int .i64 (-3), .int .i64 1]
    try simp only [World.size_alloc] at h0
    exact ((((h0.alloc _).alloc _).alloc _).alloc _)
  have L2 : Hid (Row (World.alloc (World.alloc (World.alloc (World.alloc (World.alloc (World.alloc w5 (.cells #[.int .i64 0, .slice NA nn nx] 30)) (.cells #[.int .i64 (-3), .int .i64 1] 3)) (.cells #[.int .i64 (-3), .int .i64 2] 3)) (.cells #[.int .i64 3, .int .i64 (-1), .int .i64 (-2)] 3)) (.cells #[.slice (some ⟨w5.heap.size + 1, 0, none⟩) 2 2, .slice (some ⟨w5.heap.size + 1 + 1, 0, none⟩) 2 2, .slice (some ⟨w5.heap.size + 1 + 1 + 1, 0, none⟩) 3 3] 23)) (.cells #[.int .i64 3, .slice (some ⟨w5.heap.size + 1 + 1 + 1 + 1, 0, none⟩) 3 3] 30)) (w5.heap.size + 1 + 1) 3 [.int .i64 (-3), .int .i64 2]) := by
    have h0 := Row.new (World.alloc (World.alloc w5 (.cells #[.int .i64 0, .slice NA nn nx] 30)) (.cells #[.int .i64 (-3), .int .i64 1] 3)) 3 [.int .i64 (-3), .int .i64 2]
    try simp only [World.size_alloc] at h0
    exact (((h0.alloc _).alloc _).alloc _)
  have L3 : Hid (Row (World.alloc (World.alloc (World.alloc (World.alloc (World.alloc (World.alloc w5 (.cells #[.int .i64 0, .slice NA nn nx] 30)) (.cells #[.int .i64 (-3), .int .i64 1] 3)) (.cells #[.int .i64 (-3), .int .i64 2] 3)) (.cells #[.int .i64 3, .int .i64 (-1), .int .i64 (-2)] 3)) (.cells #[.slice (some ⟨w5.heap.size + 1, 0, none⟩) 2 2, .slice (some ⟨w5.heap.size + 1 + 1, 0, none⟩) 2 2, .slice (some ⟨w5.heap.size + 1 + 1 + 1, 0, none⟩) 3 3] 23)) (.cells #[.int .i64 3, .slice (some ⟨w5.heap.size + 1 + 1 + 1 + 1, 0, none⟩) 3 3] 30)) (w5.heap.size + 1 + 1 + 1) 3 [.int .i64 3, .int .i64 (-1), .int .i64 (-2)]) := by
    have h0 := Row.new (World.alloc (World.alloc (World.alloc w5 (.cells #[.int .i64 0, .slice NA nn nx] 30)) (.cells #[.int .i64 (-3), .int .i64 1] 3)) (.cells #[.int .i64 (-3), .int .i64 2] 3)) 3 [.int .i64 3, .int .i64 (-1), .int .i64 (-2)]
    try simp only [World.size_alloc] at h0
    exact ((h0.alloc _).alloc _)
  have L4 : Hid (Row (World.alloc (World.alloc (World.alloc (World.alloc (World.alloc (World.alloc w5 (.cells #[.int .i64 0, .slice NA nn nx] 30)) (.cells #[.int .i64 (-3), .int .i64 1] 3)) (.cells #[.int .i64 (-3), .int .i64 2] 3)) (.cells #[.int .i64 3, .int .i64 (-1), .int .i64 (-2)] 3)) (.cells #[.slice (some ⟨w5.heap.size + 1, 0, none⟩) 2 2, .slice (some ⟨w5.heap.size + 1 + 1, 0, none⟩) 2 2, .slice (some ⟨w5.heap.size + 1 + 1 + 1, 0, none⟩) 3 3] 23)) (.cells #[.int .i64 3, .slice (some ⟨w5.heap.size + 1 + 1 + 1 + 1, 0, none⟩) 3 3] 30)) (w5.heap.size + 1 + 1 + 1 + 1) 23 [.slice (some ⟨w5.heap.size + 1, 0, none⟩) 2 2, .slice (some ⟨w5.heap.size + 1 + 1, 0, none⟩) 2 2, .slice (some ⟨w5.heap.size + 1 + 1 + 1, 0, none⟩) 3 3]) := by
    have h0 := Row.new (World.alloc (World.alloc (World.alloc (World.alloc w5 (.cells #[.int .i64 0, .slice NA nn nx] 30)) (.cells #[.int .i64 (-3), .int .i64 1] 3)) (.cells #[.int .i64 (-3), .int .i64 2] 3)) (.cells #[.int .i64 3, .int .i64 (-1), .int .i64 (-2)] 3)) 23 [.slice (some ⟨w5.heap.size + 1, 0, none⟩) 2 2, .slice (some ⟨w5.heap.size + 1 + 1, 0, none⟩) 2 2, .slice (some ⟨w5.heap.size + 1 + 1 + 1, 0, none⟩) 3 3]
    try simp only [World.size_alloc] at h0
    exact (h0.alloc _)
  have RW : Hid (Row (World.alloc (World.alloc (World.alloc (World.alloc (World.alloc (World.alloc w5 (.cells #[.int .i64 0, .slice NA nn nx] 30)) (.cells #[.int .i64 (-3), .int .i64 1] 3)) (.cells #[.int .i64 (-3), .int .i64 2] 3)) (.cells #[.int .i64 3, .int .i64 (-1), .int .i64 (-2)] 3)) (.cells #[.slice (some ⟨w5.heap.size + 1, 0, none⟩) 2 2, .slice (some ⟨w5.heap.size + 1 + 1, 0, none⟩) 2 2, .slice (some ⟨w5.heap.size + 1 + 1 + 1, 0, none⟩) 3 3] 23)) (.cells #[.int .i64 3, .slice (some ⟨w5.heap.size + 1 + 1 + 1 + 1, 0, none⟩) 3 3] 30)) (w5.heap.size + 1 + 1 + 1 + 1 + 1) 30 [.int .i64 3, .slice (some ⟨w5.heap.size + 1 + 1 + 1 + 1, 0, none⟩) 3 3]) := by
    have h0 := Row.new (World.alloc (World.alloc (World.alloc (World.alloc (World.alloc w5 (.cells #[.int .i64 0, .slice NA nn nx] 30)) (.cells #[.int .i64 (-3), .int .i64 1] 3)) (.cells #[.int .i64 (-3), .int .i64 2] 3)) (.cells #[.int .i64 3, .int .i64 (-1), .int .i64 (-2)] 3)) (.cells #[.slice (some ⟨w5.heap.size + 1, 0, none⟩) 2 2, .slice (some ⟨w5.heap.size + 1 + 1, 0, none⟩) 2 2, .slice (some ⟨w5.heap.size + 1 + 1 + 1, 0, none⟩) 3 3] 23)) 30 [.int .i64 3, .slice (some ⟨w5.heap.size + 1 + 1 + 1 + 1, 0, none⟩) 3 3]
    try simp only [World.size_alloc] at h0
    exact h0
  have hgr9 : Below w5.heap.size w5 (World.alloc (World.alloc (World.alloc (World.alloc (World.alloc (World.alloc w5 (.cells #[.int .i64 0, .slice NA nn nx] 30)) (.cells #[.int .i64 (-3), .int .i64 1] 3)) (.cells #[.int .i64 (-3), .int .i64 2] 3)) (.cells #[.int .i64 3, .int .i64 (-1), .int .i64 (-2)] 3)) (.cells #[.slice (some ⟨w5.heap.size + 1, 0, none⟩) 2 2, .slice (some ⟨w5.heap.size + 1 + 1, 0, none⟩) 2 2, .slice (some ⟨w5.heap.size + 1 + 1 + 1, 0, none⟩) 3 3] 23)) (.cells #[.int .i64 3, .slice (some ⟨w5.heap.size + 1 + 1 + 1 + 1, 0, none⟩) 3 3] 30)) := by go_grown
  have B_w : Hid (Below w.heap.size w (World.alloc (World.alloc (World.alloc (World.alloc (World.alloc (World.alloc w5 (.cells #[.int .i64 0, .slice NA nn nx] 30)) (.cells #[.int .i64 (-3), .int .i64 1] 3)) (.cells #[.int .i64 (-3), .int .i64 2] 3)) (.cells #[.int .i64 3, .int .i64 (-1), .int .i64 (-2)] 3)) (.cells #[.slice (some ⟨w5.heap.size + 1, 0, none⟩) 2 2, .slice (some ⟨w5.heap.size + 1 + 1, 0, none⟩) 2 2, .slice (some ⟨w5.heap.size + 1 + 1 + 1, 0, none⟩) 3 3] 23)) (.cells #[.int .i64 3, .slice (some ⟨w5.heap.size + 1 + 1 + 1 + 1, 0, none⟩) 3 3] 30))) := below_on2 B_w.out hgr9
  have B_wa : Hid (Below wa.heap.size wa (World.alloc (World.alloc (World.alloc (World.alloc (World.alloc (World.alloc w5 (.cells #[.int .i64 0, .slice NA nn nx] 30)) (.cells #[.int .i64 (-3), .int .i64 1] 3)) (.cells #[.int .i64 (-3), .int .i64 2] 3)) (.cells #[.int .i64 3, .int .i64 (-1), .int .i64 (-2)] 3)) (.cells #[.slice (some ⟨w5.heap.size + 1, 0, none⟩) 2 2, .slice (some ⟨w5.heap.size + 1 + 1, 0, none⟩) 2 2, .slice (some ⟨w5.heap.size + 1 + 1 + 1, 0, none⟩) 3 3] 23)) (.cells #[.int .i64 3, .slice (some ⟨w5.heap.size + 1 + 1 + 1 + 1, 0, none⟩) 3 3] 30))) := below_on2 B_wa.out hgr9
  have B_w1 : Hid (Below w1.heap.size w1 (World.alloc (World.alloc (World.alloc (World.alloc (World.alloc (World.alloc w5 (.cells #[.int .i64 0, .slice NA nn nx] 30)) (.cells #[.int .i64 (-3), .int .i64 1] 3)) (.cells #[.int .i64 (-3), .int .i64 2] 3)) (.cells #[.int .i64 3, .int .i64 (-1), .int .i64 (-2)] 3)) (.cells #[.slice (some ⟨w5.heap.size + 1, 0, none⟩) 2 2, .slice (some ⟨w5.heap.size + 1 + 1, 0, none⟩) 2 2, .slice (some ⟨w5.heap.size + 1 + 1 + 1, 0, none⟩) 3 3] 23)) (.cells #[.int .i64 3, .slice (some ⟨w5.heap.size + 1 + 1 + 1 + 1, 0, none⟩) 3 3] 30))) := below_on2 B_w1.out hgr9
  have B_wb : Hid (Below wb.heap.size wb (World.alloc (World.alloc (World.alloc (World.alloc (World.alloc (World.alloc w5 (.cells #[.int .i64 0, .slice NA nn nx] 30)) (.cells #[.int .i64 (-3), .int .i64 1] 3)) (.cells #[.int .i64 (-3), .int .i64 2] 3)) (.cells #[.int .i64 3, .int .i64 (-1), .int .i64 (-2)] 3)) (.cells #[.slice (some ⟨w5.heap.size + 1, 0, none⟩) 2 2, .slice (some ⟨w5.heap.size + 1 + 1, 0, none⟩) 2 2, .slice (some ⟨w5.heap.size + 1 + 1 + 1, 0, none⟩) 3 3] 23)) (.cells #[.int .i64 3, .slice (some ⟨w5.heap.size + 1 + 1 + 1 + 1, 0, none⟩) 3 3] 30))) := below_on2 B_wb.out hgr9
  have B_w2 : Hid (Below w2.heap.size w2 (World.alloc (World.alloc (World.alloc (World.alloc (World.alloc (World.alloc w5 (.cells #[.int .i64 0, .slice NA nn nx] 30)) (.cells #[.int .i64 (-3), .int .i64 1] 3)) (.cells #[.int .i64 (-3), .int .i64 2] 3)) (.cells #[.int .i64 3, .int .i64 (-1), .int .i64 (-2)] 3)) (.cells #[.slice (some ⟨w5.heap.size + 1, 0, none⟩) 2 2, .slice (some ⟨w5.heap.size + 1 + 1, 0, none⟩) 2 2, .slice (some ⟨w5.heap.size + 1 + 1 + 1, 0, none⟩) 3 3] 23)) (.cells #[.int .i64 3, .slice (some ⟨w5.heap.size + 1 + 1 + 1 + 1, 0, none⟩) 3 3] 30))) := below_on2 B_w2.out hgr9
  have B_wc : Hid (Below wc.heap.size wc (World.alloc (World.alloc (World.alloc (World.alloc (World.alloc (World.alloc w5 (.cells #[.int .i64 0, .slice NA nn nx] 30)) (.cells #[.int .i64 (-3), .int .i64 1] 3)) (.cells #[.int .i64 (-3), .int .i64 2] 3)) (.cells #[.int .i64 3, .int .i64 (-1), .int .i64 (-2)] 3)) (.cells #[.slice (some ⟨w5.heap.size + 1, 0, none⟩) 2 2, .slice (some ⟨w5.heap.size + 1 + 1, 0, none⟩) 2 2, .slice (some ⟨w5.heap.size + 1 + 1 + 1, 0, none⟩) 3 3] 23)) (.cells #[.int .i64 3, .slice (some ⟨w5.heap.size + 1 + 1 + 1 + 1, 0, none⟩) 3 3] 30))) := below_on2 B_wc.out hgr9
  have B_w3 : Hid (Below w3.heap.size w3 (World.alloc (World.alloc (World.alloc (World.alloc (World.alloc (World.alloc w5 (.cells #[.int .i64 0, .slice NA nn nx] 30)) (.cells #[.int .i64 (-3), .int .i64 1] 3)) (.cells #[.int .i64 (-3), .int .i64 2] 3)) (.cells #[.int .i64 3, .int .i64 (-1), .int .i64 (-2)] 3)) (.cells #[.slice (some ⟨w5.heap.size + 1, 0, none⟩) 2 2, .slice (some ⟨w5.heap.size + 1 + 1, 0, none⟩) 2 2, .slice (some ⟨w5.heap.size + 1 + 1 + 1, 0, none⟩) 3 3] 23)) (.cells #[.int .i64 3, .slice (some ⟨w5.heap.size + 1 + 1 + 1 + 1, 0, none⟩) 3 3] 30))) := below_on2 B_w3.out hgr9
  have B_wd : Hid (Below wd.heap.size wd (World.alloc (World.alloc (World.alloc (World.alloc (World.alloc (World.alloc w5 (.cells #[.int .i64 0, .slice NA nn nx] 30)) (.cells #[.int .i64 (-3), .int .i64 1] 3)) (.cells #[.int .i64 (-3), .int .i64 2] 3)) (.cells #[.int .i64 3, .int .i64 (-1), .int .i64 (-2)] 3)) (.cells #[.slice (some ⟨w5.heap.size + 1, 0, none⟩) 2 2, .slice (some ⟨w5.heap.size + 1 + 1, 0, none⟩) 2 2, .slice (some ⟨w5.heap.size + 1 + 1 + 1, 0, none⟩) 3 3] 23)) (.cells #[.int .i64 3, .slice (some ⟨w5.heap.size + 1 + 1 + 1 + 1, 0, none⟩) 3 3] 30))) := below_on2 B_wd.out hgr9
  have B_w4 : Hid (Below w4.heap.size w4 (World.alloc (World.alloc (World.alloc (World.alloc (World.alloc (World.alloc w5 (.cells #[.int .i64 0, .slice NA nn nx] 30)) (.cells #[.int .i64 (-3), .int .i64 1] 3)) (.cells #[.int .i64 (-3), .int .i64 2] 3)) (.cells #[.int .i64 3, .int .i64 (-1), .int .i64 (-2)] 3)) (.cells #[.slice (some ⟨w5.heap.size + 1, 0, none⟩) 2 2, .slice (some ⟨w5.heap.size + 1 + 1, 0, none⟩) 2 2, .slice (some ⟨w5.heap.size + 1 + 1 + 1, 0, none⟩) 3 3] 23)) (.cells #[.int .i64 3, .slice (some ⟨w5.heap.size + 1 + 1 + 1 + 1, 0, none⟩) 3 3] 30))) := below_on2 B_w4.out hgr9
  have B_we : Hid (Below we.heap.size we (World.alloc (World.alloc (World.alloc (World.alloc (World.alloc (World.alloc w5 (.cells #[.int .i64 0, .slice NA nn nx] 30)) (.cells #[.int .i64 (-3), .int .i64 1] 3)) (.cells #[.int .i64 (-3), .int .i64 2] 3)) (.cells #[.int .i64 3, .int .i64 (-1), .int .i64 (-2)] 3)) (.cells #[.slice (some ⟨w5.heap.size + 1, 0, none⟩) 2 2, .slice (some ⟨w5.heap.size + 1 + 1, 0, none⟩) 2 2, .slice (some ⟨w5.heap.size + 1 + 1 + 1, 0, none⟩) 3 3] 23)) (.cells #[.int .i64 3, .slice (some ⟨w5.heap.size + 1 + 1 + 1 + 1, 0, none⟩) 3 3] 30))) := below_on2 B_we.out hgr9
  have B_w5 : Hid (Below w5.heap.size w5 (World.alloc (World.alloc (World.alloc (World.alloc (World.alloc (World.alloc w5 (.cells #[.int .i64 0, .slice NA nn nx] 30)) (.cells #[.int .i64 (-3), .int .i64 1] 3)) (.cells #[.int .i64 (-3), .int .i64 2] 3)) (.cells #[.int .i64 3, .int .i64 (-1), .int .i64 (-2)] 3)) (.cells #[.slice (some ⟨w5.heap.size + 1, 0, none⟩) 2 2, .slice (some ⟨w5.heap.size + 1 + 1, 0, none⟩) 2 2, .slice (some ⟨w5.heap.size + 1 + 1 + 1, 0, none⟩) 3 3] 23)) (.cells #[.int .i64 3, .slice (some ⟨w5.heap.size + 1 + 1 + 1 + 1, 0, none⟩) 3 3] 30))) := hgr9
  clear hgr9
  clear k0 k1 kl
  revert L1 L2 L3 L4 RW B_w B_wa B_w1 B_wb B_w2 B_wc B_w3 B_wd B_w4 B_we B_w5
  generalize (World.alloc (World.alloc (World.alloc (World.alloc (World.alloc (World.alloc w5 (.cells #[.int .i64 0, .slice NA nn nx] 30)) (.cells #[.int .i64 (-3), .int .i64 1] 3)) (.cells #[.int .i64 (-3), .int .i64 2] 3)) (.cells #[.int .i64 3, .int .i64 (-1), .int .i64 (-2)] 3)) (.cells #[.slice (some ⟨w5.heap.size + 1, 0, none⟩) 2 2, .slice (some ⟨w5.heap.size + 1 + 1, 0, none⟩) 2 2, .slice (some ⟨w5.heap.size + 1 + 1 + 1, 0, none⟩) 3 3] 23)) (.cells #[.int .i64 3, .slice (some ⟨w5.heap.size + 1 + 1 + 1 + 1, 0, none⟩) 3 3] 30)) = wf
  intro L1 L2 L3 L4 RW B_w B_wa B_w1 B_wb B_w2 B_wc B_w3 B_wd B_w4 B_we B_w5
  have HW : Hid (FAt wf exF (some ⟨w5.heap.size + 1 + 1 + 1 + 1, 0, none⟩) 3 [⟨(some ⟨w5.heap.size + 1, 0, none⟩), 2, 2⟩, ⟨(some ⟨w5.heap.size + 1 + 1, 0, none⟩), 2, 2⟩, ⟨(some ⟨w5.heap.size + 1 + 1 + 1, 0, none⟩), 3, 3⟩]) := ⟨L4.out.rd rfl, rfl, fun i hi => by
    have hc : i = 0 ∨ i = 1 ∨ i = 2 := by have h9 : i < 3 := hi; omega
    rcases hc with rfl | rfl | rfl
    · exact ⟨L1.out.rd rfl, by show 2 ≤ maxLen; unfold maxLen; omega⟩
    · exact ⟨L2.out.rd rfl, by show 2 ≤ maxLen; unfold maxLen; omega⟩
    · exact ⟨L3.out.rd rfl, by show 3 ≤ maxLen; unfold maxLen; omega⟩, by unfold maxLen; omega⟩
  have HCT := rEqualF_any exF exF FA (some ⟨w5.heap.size + 1 + 1 + 1 + 1, 0, none⟩) 3 fx 3 3 sf _ wf (HF.out.up B_w1.out) HW.out
  rw [sameF_self] at HCT
  refine HCT.mono ?_
  clear HCT
  rintro e w6 ⟨rfl, hb⟩
  have B_w : Hid (Below w.heap.size w w6) := below_on2 B_w.out hb
  have B_wa : Hid (Below wa.heap.size wa w6) := below_on2 B_wa.out hb
  have B_w1 : Hid (Below w1.heap.size w1 w6) := below_on2 B_w1.out hb
  have B_wb : Hid (Below wb.heap.size wb w6) := below_on2 B_wb.out hb
  have B_w2 : Hid (Below w2.heap.size w2 w6) := below_on2 B_w2.out hb
  have B_wc : Hid (Below wc.heap.size wc w6) := below_on2 B_wc.out hb
  have B_w3 : Hid (Below w3.heap.size w3 w6) := below_on2 B_w3.out hb
  have B_wd : Hid (Below wd.heap.size wd w6) := below_on2 B_wd.out hb
  have B_w4 : Hid (Below w4.heap.size w4 w6) := below_on2 B_w4.out hb
  have B_we : Hid (Below we.heap.size we w6) := below_on2 B_we.out hb
  have B_w5 : Hid (Below w5.heap.size w5 w6) := below_on2 B_w5.out hb
  have B_wf : Hid (Below wf.heap.size wf w6) := hb
  clear hb
  go_wp2_with fail
  have L5 : Hid (Row (World.alloc w6 (.cells #[.int .i64 4] 3)) (w6.heap.size) 3 [.int .i64 4]) := by
    have h0 := Row.new w6 3 [.int .i64 4]
    try simp only [World.size_alloc] at h0
    exact h0
  have hgr9 : Below w6.heap.size w6 (World.alloc w6 (.cells #[.int .i64 4] 3)) := by go_grown
  have B_w : Hid (Below w.heap.size w (World.alloc w6 (.cells #[.int .i64 4] 3))) := below_on2 B_w.out hgr9
  have B_wa : Hid (Below wa.heap.size wa (World.alloc w6 (.cells #[.int .i64 4] 3))) := below_on2 B_wa.out hgr9
  have B_w1 : Hid (Below w1.heap.size w1 (World.alloc w6 (.cells #[.int .i64 4] 3))) := below_on2 B_w1.out hgr9
  have B_wb : Hid (Below wb.heap.size wb (World.alloc w6 (.cells #[.int .i64 4] 3))) := below_on2 B_wb.out hgr9
  have B_w2 : Hid (Below w2.heap.size w2 (World.alloc w6 (.cells #[.int .i64 4] 3))) := below_on2 B_w2.out hgr9
  have B_wc : Hid (Below wc.heap.size wc (World.alloc w6 (.cells #[.int .i64 4] 3))) := below_on2 B_wc.out hgr9
  have B_w3 : Hid (Below w3.heap.size w3 (World.alloc w6 (.cells #[.int .i64 4] 3))) := below_on2 B_w3.out hgr9
  have B_wd : Hid (Below wd.heap.size wd (World.alloc w6 (.cells #[.int .i64 4] 3))) := below_on2 B_wd.out hgr9
  have B_w4 : Hid (Below w4.heap.size w4 (World.alloc w6 (.cells #[.int .i64 4] 3))) := below_on2 B_w4.out hgr9
  have B_we : Hid (Below we.heap.size we (World.alloc w6 (.cells #[.int .i64 4] 3))) := below_on2 B_we.out hgr9
  have B_w5 : Hid (Below w5.heap.size w5 (World.alloc w6 (.cells #[.int .i64 4] 3))) := below_on2 B_w5.out hgr9
  have B_wf : Hid (Below wf.heap.size wf (World.alloc w6 (.cells #[.int .i64 4] 3))) := below_on2 B_wf.out hgr9
  have B_w6 : Hid (Below w6.heap.size w6 (World.alloc w6 (.cells #[.int .i64 4] 3))) := hgr9
  clear hgr9
  revert L5 B_w B_wa B_w1 B_wb B_w2 B_wc B_w3 B_wd B_w4 B_we B_w5 B_wf B_w6
  generalize (World.alloc w6 (.cells #[.int .i64 4] 3)) = wg
  intro L5 B_w B_wa B_w1 B_wb B_w2 B_wc B_w3 B_wd B_w4 B_we B_w5 B_wf B_w6
  have HCT := rSameInts_any QA (some ⟨w6.heap.size, 0, none⟩) 1 qc 1 1 [4] [4] wg (HQ.out.up B_w2.out) (L5.out.rd rfl) (by unfold maxLen; omega) (by unfold maxLen; omega)
  rw [decide_eq_true rfl] at HCT
  refine HCT.mono ?_
  clear HCT
  rintro e w7 ⟨rfl, hb⟩
  have B_w : Hid (Below w.heap.size w w7) := below_on2 B_w.out hb
  have B_wa : Hid (Below wa.heap.size wa w7) := below_on2 B_wa.out hb
  have B_w1 : Hid (Below w1.heap.size w1 w7) := below_on2 B_w1.out hb
  have B_wb : Hid (Below wb.heap.size wb w7) := below_on2 B_wb.out hb
  have B_w2 : Hid (Below w2.heap.size w2 w7) := below_on2 B_w2.out hb
  have B_wc : Hid (Below wc.heap.size wc w7) := below_on2 B_wc.out hb
  have B_w3 : Hid (Below w3.heap.size w3 w7) := below_on2 B_w3.out hb
  have B_wd : Hid (Below wd.heap.size wd w7) := below_on2 B_wd.out hb
  have B_w4 : Hid (Below w4.heap.size w4 w7) := below_on2 B_w4.out hb
  have B_we : Hid (Below we.heap.size we w7) := below_on2 B_we.out hb
  have B_w5 : Hid (Below w5.heap.size w5 w7) := below_on2 B_w5.out hb
  have B_wf : Hid (Below wf.heap.size wf w7) := below_on2 B_wf.out hb
  have B_w6 : Hid (Below w6.heap.size w6 w7) := below_on2 B_w6.out hb
  have B_wg : Hid (Below wg.heap.size wg w7) := hb
  clear hb
  obtain ⟨ad, rfl, hab, hp0, hd0, hm0, hl0⟩ := (HX.out.up B_w3.out).row (k := 3) (by omega)
  generalize sx.getD 3 default = s0 at hp0 hd0 hl0 hm0
  obtain ⟨a0, n0, c0⟩ := s0
  dsimp only at hp0 hd0 hl0 hm0
  obtain rfl : 1 = n0 := hl0
  have hp0 : w7.cell? ⟨ad.block, ad.off + 3, none⟩ = some (.slice a0 1 c0) := hp0
  have HD0 : Hid (Rd w7 w7.heap.size 1 a0 1 (ints [-3])) := hd0
  clear hd0 hm0
  have kR : Hid (Row w7 (w2.heap.size) 30 [.int .i64 4, .slice PA 6 pc]) := (rowCells R4.out B_wc.out)
  have k0 := kR.out.cell 0
  have k1 := kR.out.cell 1
  have kl := kR.out.lt
  simp only [List.getElem?_cons_zero, List.getElem?_cons_succ] at k0 k1
  clear kR
  have jR : Hid (Row w7 (w3.heap.size) 30 [.int .i64 3, .slice (some ad) 5 xx]) := (rowCells R7.out B_wd.out)
  have j0 := jR.out.cell 0
  have j1 := jR.out.cell 1
  have jl := jR.out.lt
  simp only [List.getElem?_cons_zero, List.getElem?_cons_succ] at j0 j1
  clear jR
  go_wp2_with fail
  clear hp0 hab
  have L6 : Hid (Row (World.alloc w7 (.cells #[.int .i64 (-3)] 3)) (w7.heap.size) 3 [.int .i64 (-3)]) := by
    have h0 := Row.new w7 3 [.int .i64 (-3)]
    try simp only [World.size_alloc] at h0
    exact h0
  have hgr9 : Below w7.heap.size w7 (World.alloc w7 (.cells #[.int .i64 (-3)] 3)) := by go_grown
  have B_w : Hid (Below w.heap.size w (World.alloc w7 (.cells #[.int .i64 (-3)] 3))) := below_on2 B_w.out hgr9
  have B_wa : Hid (Below wa.heap.size wa (World.alloc w7 (.cells #[.int .i64 (-3)] 3))) := below_on2 B_wa.out hgr9
  have B_w1 : Hid (Below w1.heap.size w1 (World.alloc w7 (.cells #[.int .i64 (-3)] 3))) := below_on2 B_w1.out hgr9
  have B_wb : Hid (Below wb.heap.size wb (World.alloc w7 (.cells #[.int .i64 (-3)] 3))) := below_on2 B_wb.out hgr9
  have B_w2 : Hid (Below w2.heap.size w2 (World.alloc w7 (.cells #[.int .i64 (-3)] 3))) := below_on2 B_w2.out hgr9
  have B_wc : Hid (Below wc.heap.size wc (World.alloc w7 (.cells #[.int .i64 (-3)] 3))) := below_on2 B_wc.out hgr9
  have B_w3 : Hid (Below w3.heap.size w3 (World.alloc w7 (.cells #[.int .i64 (-3)] 3))) := below_on2 B_w3.out hgr9
  have B_wd : Hid (Below wd.heap.size wd (World.alloc w7 (.cells #[.int .i64 (-3)] 3))) := below_on2 B_wd.out hgr9
  have B_w4 : Hid (Below w4.heap.size w4 (World.alloc w7 (.cells #[.int .i64 (-3)] 3))) := below_on2 B_w4.out hgr9
  have B_we : Hid (Below we.heap.size we (World.alloc w7 (.cells #[.int .i64 (-3)] 3))) := below_on2 B_we.out hgr9
  have B_w5 : Hid (Below w5.heap.size w5 (World.alloc w7 (.cells #[.int .i64 (-3)] 3))) := below_on2 B_w5.out hgr9
  have B_wf : Hid (Below wf.heap.size wf (World.alloc w7 (.cells #[.int .i64 (-3)] 3))) := below_on2 B_wf.out hgr9
  have B_w6 : Hid (Below w6.heap.size w6 (World.alloc w7 (.cells #[.int .i64 (-3)] 3))) := below_on2 B_w6.out hgr9
  have B_wg : Hid (Below wg.heap.size wg (World.alloc w7 (.cells #[.int .i64 (-3)] 3))) := below_on2 B_wg.out hgr9
  have B_w7 : Hid (Below w7.heap.size w7 (World.alloc w7 (.cells #[.int .i64 (-3)] 3))) := hgr9
  clear hgr9
  clear k0 k1 kl j0 j1 jl
  revert L6 B_w B_wa B_w1 B_wb B_w2 B_wc B_w3 B_wd B_w4 B_we B_w5 B_wf B_w6 B_wg B_w7
  generalize (World.alloc w7 (.cells #[.int .i64 (-3)] 3)) = wh
  intro L6 B_w B_wa B_w1 B_wb B_w2 B_wc B_w3 B_wd B_w4 B_we B_w5 B_wf B_w6 B_wg B_w7
  have HCT := rSameInts_any a0 (some ⟨w7.heap.size, 0, none⟩) 1 c0 1 1 [-3] [-3] wh (HD0.out.up B_w7.out) (L6.out.rd rfl) (by unfold maxLen; omega) (by unfold maxLen; omega)
  rw [decide_eq_true rfl] at HCT
  refine HCT.mono ?_
  clear HCT
  rintro e w8 ⟨rfl, hb⟩
  have B_w : Hid (Below w.heap.size w w8) := below_on2 B_w.out hb
  have B_wa : Hid (Below wa.heap.size wa w8) := below_on2 B_wa.out hb
  have B_w1 : Hid (Below w1.heap.size w1 w8) := below_on2 B_w1.out hb
  have B_wb : Hid (Below wb.heap.size wb w8) := below_on2 B_wb.out hb
  have B_w2 : Hid (Below w2.heap.size w2 w8) := below_on2 B_w2.out hb
  have B_wc : Hid (Below wc.heap.size wc w8) := below_on2 B_wc.out hb
  have B_w3 : Hid (Below w3.heap.size w3 w8) := below_on2 B_w3.out hb
  have B_wd : Hid (Below wd.heap.size wd w8) := below_on2 B_wd.out hb
  have B_w4 : Hid (Below w4.heap.size w4 w8) := below_on2 B_w4.out hb
  have B_we : Hid (Below we.heap.size we w8) := below_on2 B_we.out hb
  have B_w5 : Hid (Below w5.heap.size w5 w8) := below_on2 B_w5.out hb
  have B_wf : Hid (Below wf.heap.size wf w8) := below_on2 B_wf.out hb
  have B_w6 : Hid (Below w6.heap.size w6 w8) := below_on2 B_w6.out hb
  have B_wg : Hid (Below wg.heap.size wg w8) := below_on2 B_wg.out hb
  have B_w7 : Hid (Below w7.heap.size w7 w8) := below_on2 B_w7.out hb
  have B_wh : Hid (Below wh.heap.size wh w8) := hb
  clear hb
  obtain ⟨ae, rfl, hab, hp0, hd0, hm0, hl0⟩ := (HY.out.up B_w4.out).row (k := 4) (by omega)
  generalize sy.getD 4 default = s0 at hp0 hd0 hl0 hm0
  obtain ⟨a1, n1, c1⟩ := s0
  dsimp only at hp0 hd0 hl0 hm0
  obtain rfl : 2 = n1 := hl0
  have hp0 : w8.cell? ⟨ae.block, ae.off + 4, none⟩ = some (.slice a1 2 c1) := hp0
  have HD1 : Hid (Rd w8 w8.heap.size 1 a1 2 (ints [1, -2])) := hd0
  clear hd0 hm0
  have kR : Hid (Row w8 (w4.heap.size) 30 [.int .i64 3, .slice (some ae) 5 yx]) := (rowCells R9.out B_we.out)
  have k0 := kR.out.cell 0
  have k1 := kR.out.cell 1
  have kl := kR.out.lt
  simp only [List.getElem?_cons_zero, List.getElem?_cons_succ] at k0 k1
  clear kR
  go_wp2_with fail
  clear hp0 hab
  have L7 : Hid (Row (World.alloc w8 (.cells #[.int .i64 1, .int .i64 (-2)] 3)) (w8.heap.size) 3 [.int .i64 1, .int .i64 (-2)]) := by
    have h0 := Row.new w8 3 [.int .i64 1, .int .i64 (-2)]
    try simp only [World.size_alloc] at h0
    exact h0
  have hgr9 : Below w8.heap.size w8 (World.alloc w8 (.cells #[.int .i64 1, .int .i64 (-2)] 3)) := by go_grown
  have B_w : Hid (Below w.heap.size w (World.alloc w8 (.cells #[.int .i64 1, .int .i64 (-2)] 3))) := below_on2 B_w.out hgr9
  have B_wa : Hid (Below wa.heap.size wa (World.alloc w8 (.cells #[.int .i64 1, .int .i64 (-2)] 3))) := below_on2 B_wa.out hgr9
  have B_w1 : Hid (Below w1.heap.size w1 (World.alloc w8 (.cells #[.int .i64 1, .int .i64 (-2)] 3))) := below_on2 B_w1.out hgr9
  have B_wb : Hid (Below wb.heap.size wb (World.alloc w8 (.cells #[.int .i64 1, .int .i64 (-2)] 3))) := below_on2 B_wb.out hgr9
  have B_w2 : Hid (Below w2.heap.size w2 (World.alloc w8 (.cells #[.int .i64 1, .int .i64 (-2)] 3))) := below_on2 B_w2.out hgr9
  have B_wc : Hid (Below wc.heap.size wc (World.alloc w8 (.cells #[.int .i64 1, .int .i64 (-2)] 3))) := below_on2 B_wc.out hgr9
  have B_w3 : Hid (Below w3.heap.size w3 (World.alloc w8 (.cells #[.int .i64 1, .int .i64 (-2)] 3))) := below_on2 B_w3.out hgr9
  have B_wd : Hid (Below wd.heap.size wd (World.alloc w8 (.cells #[.int .i64 1, .int .i64 (-2)] 3))) := below_on2 B_wd.out hgr9
  have B_w4 : Hid (Below w4.heap.size w4 (World.alloc w8 (.cells #[.int .i64 1, .int .i64 (-2)] 3))) := below_on2 B_w4.out hgr9
  have B_we : Hid (Below we.heap.size we (World.alloc w8 (.cells #[.int .i64 1, .int .i64 (-2)] 3))) := below_on2 B_we.out hgr9
  have B_w5 : Hid (Below w5.heap.size w5 (World.alloc w8 (.cells #[.int .i64 1, .int .i64 (-2)] 3))) := below_on2 B_w5.out hgr9
  have B_wf : Hid (Below wf.heap.size wf (World.alloc w8 (.cells #[.int .i64 1, .int .i64 (-2)] 3))) := below_on2 B_wf.out hgr9
  have B_w6 : Hid (Below w6.heap.size w6 (World.alloc w8 (.cells #[.int .i64 1, .int .i64 (-2)] 3))) := below_on2 B_w6.out hgr9
  have B_wg : Hid (Below wg.heap.size wg (World.alloc w8 (.cells #[.int .i64 1, .int .i64 (-2)] 3))) := below_on2 B_wg.out hgr9
  have B_w7 : Hid (Below w7.heap.size w7 (World.alloc w8 (.cells #[.int .i64 1, .int .i64 (-2)] 3))) := below_on2 B_w7.out hgr9
  have B_wh : Hid (Below wh.heap.size wh (World.alloc w8 (.cells #[.int .i64 1, .int .i64 (-2)] 3))) := below_on2 B_wh.out hgr9
  have B_w8 : Hid (Below w8.heap.size w8 (World.alloc w8 (.cells #[.int .i64 1, .int .i64 (-2)] 3))) := hgr9
  clear hgr9
  clear k0 k1 kl
  revert L7 B_w B_wa B_w1 B_wb B_w2 B_wc B_w3 B_wd B_w4 B_we B_w5 B_wf B_w6 B_wg B_w7 B_wh B_w8
  generalize (World.alloc w8 (.cells #[.int .i64 1, .int .i64 (-2)] 3)) = wi
  intro L7 B_w B_wa B_w1 B_wb B_w2 B_wc B_w3 B_wd B_w4 B_we B_w5 B_wf B_w6 B_wg B_w7 B_wh B_w8
  have HCT := rSameInts_any a1 (some ⟨w8.heap.size, 0, none⟩) 2 c1 2 2 [1, -2] [1, -2] wi (HD1.out.up B_w8.out) (L7.out.rd rfl) (by unfold maxLen; omega) (by unfold maxLen; omega)
  rw [decide_eq_true rfl] at HCT
  refine HCT.mono ?_
  clear HCT
  rintro e w9 ⟨rfl, hb⟩
  have B_w : Hid (Below w.heap.size w w9) := below_on2 B_w.out hb
  have B_wa : Hid (Below wa.heap.size wa w9) := below_on2 B_wa.out hb
  have B_w1 : Hid (Below w1.heap.size w1 w9) := below_on2 B_w1.out hb
  have B_wb : Hid (Below wb.heap.size wb w9) := below_on2 B_wb.out hb
  have B_w2 : Hid (Below w2.heap.size w2 w9) := below_on2 B_w2.out hb
  have B_wc : Hid (Below wc.heap.size wc w9) := below_on2 B_wc.out hb
  have B_w3 : Hid (Below w3.heap.size w3 w9) := below_on2 B_w3.out hb
  have B_wd : Hid (Below wd.heap.size wd w9) := below_on2 B_wd.out hb
  have B_w4 : Hid (Below w4.heap.size w4 w9) := below_on2 B_w4.out hb
  have B_we : Hid (Below we.heap.size we w9) := below_on2 B_we.out hb
  have B_w5 : Hid (Below w5.heap.size w5 w9) := below_on2 B_w5.out hb
  have B_wf : Hid (Below wf.heap.size wf w9) := below_on2 B_wf.out hb
  have B_w6 : Hid (Below w6.heap.size w6 w9) := below_on2 B_w6.out hb
  have B_wg : Hid (Below wg.heap.size wg w9) := below_on2 B_wg.out hb
  have B_w7 : Hid (Below w7.heap.size w7 w9) := below_on2 B_w7.out hb
  have B_wh : Hid (Below wh.heap.size wh w9) := below_on2 B_wh.out hb
  have B_w8 : Hid (Below w8.heap.size w8 w9) := below_on2 B_w8.out hb
  have B_wi : Hid (Below wi.heap.size wi w9) := hb
  clear hb
  go_wp2
  go_ret
  exact ⟨rfl, B_w.out⟩
end Go.Proofs.Ytofflkfkakddkaa
