/-
  The laws GridFrom and GridPatterns: what they do.
-/
import Derived.Test.YtoldjjgogdbalaaGAlive
import Derived.Test.YtoldjjgogdbalaaGRefFrom
import Derived.Test.YtoldjjgogdbalaaPat5d
import Derived.Test.YtoldjjgogdbalaaGRefRight
namespace Go.Proofs.Ytoldjjgogdbalaa
open Go.RowKit
set_option linter.unusedSimpArgs false
set_option linter.unusedVariables false

theorem sameG_self' (a : Grd) : sameG a a = true := (sameG_iff a a).2 rfl

set_option maxRecDepth 100000 in
set_option maxHeartbeats 4000000 in
theorem lawFrom_any (p : List Gt) (A : Option Addr) (n c : Nat) (x y z : Int) (w : World) (h : Rd w w.heap.size 3 A n (gatesCells p)) (hm : n ≤ maxLen) :
    Calls Try.prog 6 #[.slice A n c, .agg #[.int .i64 x, .int .i64 y, .int .i64 z]] w fun e w' => e = .returned (.bool true) ∧ Below w.heap.size w w' := by
  have H : Hid (Rd w w.heap.size 3 A n (gatesCells p)) := h
  have HM : Hid (n ≤ maxLen) := hm
  unfold maxLen at hm
  clear h
  go_enter Try.func6, Try.ntmps6
  by_cases hbig : 5100 < n
  · have HB : Hid (Below w.heap.size w w) := Below.refl _ _
    go_wp2_with fail
    refine (galive_any _).mono ?_
    rintro e w9 ⟨rfl, hb⟩
    have HBE : Hid (Below w.heap.size w w9) := below_on HB.out (by go_grown) hb
    clear hb
    go_wp2
    go_ret
    exact ⟨rfl, HBE.out⟩
  go_wp2_with fail
  refine (gFrom_any p A n c x y z _ (H.out.up (by go_grown)) HM.out).mono ?_
  rintro e w2 ⟨JA, jn, jc, rfl, hj, hb⟩
  have HB : Hid (Below w.heap.size w w2) := below_next hb (by go_grown)
  have RX : Hid (Row w2 w.heap.size 39 [.int .i64 x, .int .i64 y, .int .i64 z]) := rowCells (Row.new w 39 [.int .i64 x, .int .i64 y, .int .i64 z]) hb
  have HJ : Hid (GAt w2 (fromR p x y z) JA jn) := hj
  clear hb hj
  have c0 := RX.out.cell 0
  have c1 := RX.out.cell 1
  have c2 := RX.out.cell 2
  have l1 := RX.out.lt
  simp only [List.getElem?_cons_zero, List.getElem?_cons_succ] at c0 c1 c2
  go_wp2_with fail
  refine (rGFrom_any p A n c x y z _ (H.out.up (below_on2 HB.out (by go_grown))) HM.out).mono ?_
  rintro e w3 ⟨KA, kn, kc, rfl, hk, hb⟩
  have hn : Below w2.heap.size w2 w3 := below_next hb (by go_grown)
  have RJ : Hid (Row w3 w2.heap.size 24 [.int .i64 (fromR p x y z).w, .int .i64 (fromR p x y z).h, .int .i64 (fromR p x y z).edge, .slice JA jn jc]) := rowCells (Row.new w2 24 [.int .i64 (fromR p x y z).w, .int .i64 (fromR p x y z).h, .int .i64 (fromR p x y z).edge, .slice JA jn jc]) hb
  have HB := (show Hid (Below w.heap.size w w3) from below_on2 HB.out hn)
  have HJ := (show Hid (GAt w3 _ _ _) from HJ.out.up hn)
  have HK : Hid (GAt w3 (fromR p x y z) KA kn) := hk
  clear hb hn hk c0 c1 c2 l1 RX
  have c0 := RJ.out.cell 0
  have c1 := RJ.out.cell 1
  have c2 := RJ.out.cell 2
  have c3 := RJ.out.cell 3
  have l1 := RJ.out.lt
  simp only [List.getElem?_cons_zero, List.getElem?_cons_succ] at c0 c1 c2 c3
  have HPF : Hid (fromErr p x y z = 0 → patF (fromR p x y z) = p) := pat_from p x y z
  go_wp2_with fail
  refine (rGSame_any (fromR p x y z) (fromR p x y z) JA KA jn jc kn kc _ (HJ.out.up (by go_grown)) (HK.out.up (by go_grown))).mono ?_
  rw [sameG_self']
  rintro e w4 ⟨rfl, hb⟩
  have hn : Below w3.heap.size w3 w4 := below_next hb (by go_grown)
  have HB := (show Hid (Below w.heap.size w w4) from below_on2 HB.out hn)
  have HJ := (show Hid (GAt w4 _ _ _) from HJ.out.up hn)
  have RJ := (show Hid (Row w4 _ _ _) from rowCells RJ.out hn)
  clear hb hn c0 c1 c2 c3 l1 HK
  generalize hk : fromErr p x y z = k at HPF ⊢
  clear hk
  by_cases h0 : k = 0
  · subst h0
    have HP : Hid (patF (fromR p x y z) = p) := HPF.out rfl
    clear HPF
    have c0 := RJ.out.cell 0
    have c1 := RJ.out.cell 1
    have c2 := RJ.out.cell 2
    have c3 := RJ.out.cell 3
    simp only [List.getElem?_cons_zero, List.getElem?_cons_succ] at c0 c1 c2 c3
    go_wp2_with fail
    refine (gPattern_any (fromR p x y z) JA jn jc _ HJ.out).mono ?_
    rintro e w5 ⟨PA, pn, pc, rfl, hp, hpm, hb⟩
    have HR : Hid (Rd w5 w5.heap.size 3 PA pn (gatesCells (patF (fromR p x y z)))) := hp
    have HQ : Hid (pn ≤ maxLen) := hpm
    have HB := (show Hid (Below w.heap.size w w5) from below_on2 HB.out hb)
    clear hb hp hpm c0 c1 c2 c3 RJ
    go_wp2_with fail
    refine (rPSame_any (patF (fromR p x y z)) p PA A pn pc n c _ HR.out (H.out.up HB.out) HQ.out HM.out).mono ?_
    rw [decide_eq_true HP.out]
    rintro e w6 ⟨rfl, hb⟩
    have HB := (show Hid (Below w.heap.size w w6) from below_on2 HB.out hb)
    clear hb
    go_wp2_with fail
    refine (galive_any _).mono ?_
    rintro e w9 ⟨rfl, hb⟩
    have HBE : Hid (Below w.heap.size w w9) := below_on HB.out (by go_grown) hb
    clear hb
    go_wp2
    go_ret
    exact ⟨rfl, HBE.out⟩
  · have hk0 : (k != 0) = true := by simpa using h0
    clear h0 HPF RJ
    go_wp2_with fail
    refine (galive_any _).mono ?_
    rintro e w9 ⟨rfl, hb⟩
    have HBE : Hid (Below w.heap.size w w9) := below_on HB.out (by go_grown) hb
    clear hb
    go_wp2
    go_ret
    exact ⟨rfl, HBE.out⟩

set_option maxRecDepth 100000 in
set_option maxHeartbeats 4000000 in
theorem lawPats_any (g : Grd) (A : Option Addr) (n c : Nat) (w : World) (h : GAt w g A n) :
    Calls Try.prog 7 #[.agg #[.int .i64 g.w, .int .i64 g.h, .int .i64 g.edge, .slice A n c]] w fun e w' => e = .returned (.bool true) ∧ Below w.heap.size w w' := by
  have H : Hid (GAt w g A n) := h
  clear h
  go_enter Try.func7, Try.ntmps7
  go_wp2_with fail
  refine (gfew_any g A n c _ (H.out.up (by go_grown))).mono ?_
  rintro e w2 ⟨rfl, hb⟩
  have HB : Hid (Below w.heap.size w w2) := below_next hb (by go_grown)
  have RC : Hid (Row w2 w.heap.size 24 [.int .i64 g.w, .int .i64 g.h, .int .i64 g.edge, .slice A n c]) := rowCells (Row.new w 24 [.int .i64 g.w, .int .i64 g.h, .int .i64 g.edge, .slice A n c]) hb
  clear hb
  cases hf : fewG g
  · clear RC
    go_wp2_with fail
    refine (galive_any _).mono ?_
    rintro e w9 ⟨rfl, hb⟩
    have HBE : Hid (Below w.heap.size w w9) := below_on HB.out (by go_grown) hb
    clear hb
    go_wp2
    go_ret
    exact ⟨rfl, HBE.out⟩
  clear hf
  have c0 := RC.out.cell 0
  have c1 := RC.out.cell 1
  have c2 := RC.out.cell 2
  have c3 := RC.out.cell 3
  simp only [List.getElem?_cons_zero, List.getElem?_cons_succ] at c0 c1 c2 c3
  go_wp2_with fail
  refine (gPattern_any g A n c _ (H.out.up HB.out)).mono ?_
  rintro e w3 ⟨PA, pn, pc, rfl, hp, hpm, hb⟩
  have HR : Hid (Rd w3 w3.heap.size 3 PA pn (gatesCells (patF g))) := hp
  have HQ : Hid (pn ≤ maxLen) := hpm
  have HB := (show Hid (Below w.heap.size w w3) from below_on2 HB.out hb)
  have RC := (show Hid (Row w3 _ _ _) from rowCells RC.out hb)
  clear hb hp hpm c0 c1 c2 c3
  have c0 := RC.out.cell 0
  have c1 := RC.out.cell 1
  have c2 := RC.out.cell 2
  have c3 := RC.out.cell 3
  simp only [List.getElem?_cons_zero, List.getElem?_cons_succ] at c0 c1 c2 c3
  go_wp2_with fail
  refine (rGPattern_any g A n c _ (H.out.up HB.out)).mono ?_
  rintro e w4 ⟨QA, qn, qc, rfl, hp, hpm, hb⟩
  have HR2 : Hid (Rd w4 w4.heap.size 3 QA qn (gatesCells (patF g))) := hp
  have HQ2 : Hid (qn ≤ maxLen) := hpm
  have HB := (show Hid (Below w.heap.size w w4) from below_on2 HB.out hb)
  have RC := (show Hid (Row w4 _ _ _) from rowCells RC.out hb)
  have HR := (show Hid (Rd w4 _ _ _ _ _) from HR.out.up hb)
  clear hb hp hpm c0 c1 c2 c3
  go_wp2_with fail
  refine (rPSame_any (patF g) (patF g) PA QA pn pc qn qc _ HR.out HR2.out HQ.out HQ2.out).mono ?_
  rw [decide_eq_true rfl]
  rintro e w5 ⟨rfl, hb⟩
  have HB := (show Hid (Below w.heap.size w w5) from below_on2 HB.out hb)
  have RC := (show Hid (Row w5 _ _ _) from rowCells RC.out hb)
  have HR := (show Hid (Rd w5 _ _ _ _ _) from HR.out.up hb)
  clear hb HR2
  have c0 := RC.out.cell 0
  have c1 := RC.out.cell 1
  have c2 := RC.out.cell 2
  have c3 := RC.out.cell 3
  simp only [List.getElem?_cons_zero, List.getElem?_cons_succ] at c0 c1 c2 c3
  go_wp2_with fail
  refine (rGRight_any g A n c _ (H.out.up HB.out)).mono ?_
  rintro e w6 ⟨rfl, hb⟩
  have HB := (show Hid (Below w.heap.size w w6) from below_on2 HB.out hb)
  have RC := (show Hid (Row w6 _ _ _) from rowCells RC.out hb)
  have HR := (show Hid (Rd w6 _ _ _ _ _) from HR.out.up hb)
  clear hb c0 c1 c2 c3
  cases hr : rightG g
  · have hpn : pn = 0 := by
      have := HR.out.1
      rw [gatesCells_length] at this
      unfold patF at this
      rw [hr] at this
      simp at this
      omega
    subst hpn
    clear RC
    go_wp2_with fail
    refine (galive_any _).mono ?_
    rintro e w9 ⟨rfl, hb⟩
    have HBE : Hid (Below w.heap.size w w9) := below_on HB.out (by go_grown) hb
    clear hb
    go_wp2
    go_ret
    exact ⟨rfl, HBE.out⟩
  · have HFP : Hid (fromErr (patF g) g.w g.h g.edge = 0 ∧ fromR (patF g) g.w g.h g.edge = g) := from_pat g hr
    clear hr
    have c0 := RC.out.cell 0
    have c1 := RC.out.cell 1
    have c2 := RC.out.cell 2
    have c3 := RC.out.cell 3
    simp only [List.getElem?_cons_zero, List.getElem?_cons_succ] at c0 c1 c2 c3
    go_wp2_with fail
    refine (gFrom_any (patF g) PA pn pc g.w g.h g.edge _ HR.out HQ.out).mono ?_
    rintro e w7 ⟨JA, jn, jc, rfl, hj, hb⟩
    rw [HFP.out.2] at hj ⊢
    rw [HFP.out.1]
    have HJ : Hid (GAt w7 g JA jn) := hj
    have HB := (show Hid (Below w.heap.size w w7) from below_on2 HB.out hb)
    have RC := (show Hid (Row w7 _ _ _) from rowCells RC.out hb)
    clear hb hj c0 c1 c2 c3 HR
    have c0 := RC.out.cell 0
    have c1 := RC.out.cell 1
    have c2 := RC.out.cell 2
    have c3 := RC.out.cell 3
    have l1 := RC.out.lt
    simp only [List.getElem?_cons_zero, List.getElem?_cons_succ] at c0 c1 c2 c3
    go_wp2_with fail
    refine (rGSame_any g g JA A jn jc n c _ (HJ.out.up (by go_grown)) (H.out.up (below_on2 HB.out (by go_grown)))).mono ?_
    rw [sameG_self']
    rintro e w8 ⟨rfl, hb⟩
    have HB := (show Hid (Below w.heap.size w w8) from below_on HB.out (by go_grown) hb)
    clear hb c0 c1 c2 c3 l1 RC HJ
    go_wp2_with fail
    refine (galive_any _).mono ?_
    rintro e w9 ⟨rfl, hb⟩
    have HBE : Hid (Below w.heap.size w w9) := below_on HB.out (by go_grown) hb
    clear hb
    go_wp2
    go_ret
    exact ⟨rfl, HBE.out⟩
end Go.Proofs.Ytoldjjgogdbalaa
