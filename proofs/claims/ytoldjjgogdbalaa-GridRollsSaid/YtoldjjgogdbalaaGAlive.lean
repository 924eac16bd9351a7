/-
  Few and alive of the statements about grids.
-/
import Derived.Test.YtoldjjgogdbalaaGSet
import Derived.Test.YtoldjjgogdbalaaGGet
import Derived.Test.YtoldjjgogdbalaaGFrom
import Derived.Test.YtoldjjgogdbalaaGPattern
import Derived.Test.YtoldjjgogdbalaaGRefRight
import Derived.Test.YtoldjjgogdbalaaGRoll
import Derived.BigRegion
import Derived.Deep.RegionHeld3
namespace Go.Proofs.Ytoldjjgogdbalaa
open Go.RowKit
set_option linter.unusedSimpArgs false
set_option linter.unusedVariables false

theorem rowNew3 (w : World) (o o' o'' : Obj) (T : TypeId) (xs : List Value) : Row ((((w.alloc o).alloc o').alloc o'').alloc (.cells xs.toArray T)) (w.heap.size + 1 + 1 + 1) T xs := by
  have := Row.new (((w.alloc o).alloc o').alloc o'') T xs
  rw [World.size_alloc, World.size_alloc, World.size_alloc] at this
  exact this
def fewG (g : Grd) : Bool := decide (g.cells.length ≤ 5000)
set_option maxHeartbeats 400000 in
theorem gfew_any (g : Grd) (A : Option Addr) (n c : Nat) (w : World) (h : GAt w g A n) :
    Calls Try.prog 10 #[.agg #[.int .i64 g.w, .int .i64 g.h, .int .i64 g.edge, .slice A n c]] w fun e w' => e = .returned (.bool (fewG g)) ∧ Below w.heap.size w w' := by
  have HL : Hid (g.cells.length = n) := h.cl
  have h1 := h.c63
  unfold maxLen at h1
  clear h
  go_enter Try.func10, Try.ntmps10
  go_wp2
  all_goals go_ret
  all_goals refine ⟨ret_bool ?_, by go_grown⟩
  all_goals (unfold fewG; rw [HL.out]; rw [Bool.eq_iff_iff]; simp; try omega)

def gd : Grd := ⟨3, 1, 0, [1, 2, 0]⟩
def gt : Grd := ⟨3, 1, 1, [1, 2, 0]⟩
def gf : Grd := ⟨3, 1, 2, [1, 2, 0]⟩
def gr : Grd := ⟨3, 1, 1, [0, 1, 2]⟩
def gs : Grd := ⟨3, 1, 0, [0, 2, 0]⟩
def gn : Grd := ⟨3, 1, 0, [0, 0, 0]⟩
def gp : List Gt := [⟨3, 0, 1⟩]
theorem al_roll : rollR gt 1 0 = gr ∧ rollErr gt = 0 ∧ rollErr gd = 2 := ⟨(sameG_iff _ _).1 (by decide +kernel), by decide +kernel, by decide +kernel⟩
theorem al_from : fromErr gp 3 1 0 = 5 := by decide +kernel
theorem al_sized : sizedF 3 1 0 = true := by decide +kernel
theorem al_set : setR gn 1 0 2 = gs ∧ setErr gn 1 0 2 = 0 := ⟨(sameG_iff _ _).1 (by decide +kernel), by decide +kernel⟩
theorem al_d1 : getF gd (-1) 0 = 0 := by decide +kernel
theorem al_d4 : getF gd 4 0 = 0 := by decide +kernel
theorem al_f1 : getF gf (-1) 0 = 1 := by decide +kernel
theorem al_f4 : getF gf 4 0 = 2 := by decide +kernel
theorem al_t4 : getF gt 4 0 = 2 := by decide +kernel
theorem al_s1 : getF gs 1 0 = 2 := by decide +kernel
theorem al_pat : (patF gd).length = 2 := by decide +kernel
theorem al_rights : rightG gd = true ∧ rightG noGrd = false := ⟨by decide +kernel, by decide +kernel⟩
theorem al_sames : sameG gd gd = true ∧ sameG gd gt = false := ⟨by decide +kernel, by decide +kernel⟩

set_option maxRecDepth 100000 in
set_option maxHeartbeats 4000000 in
/-- The fixed examples hold. -/
theorem galive_any (w : World) : Calls Try.prog 11 #[] w fun e w' => e = .returned (.bool true) ∧ Below w.heap.size w w' := by
  go_enter Try.func11, Try.ntmps11
  go_wp2_with fail
  rename_i K hK
  have key : ∀ (gT gF : Nat) (W : World), (Below w.heap.size w W ∧ Row W w.heap.size 3 [.int .i64 1, .int .i64 2, .int .i64 0] ∧ Row W (w.heap.size + 1) 24 [.int .i64 3, .int .i64 1, .int .i64 0, .slice (some ⟨w.heap.size, 0, none⟩) 3 3] ∧ Row W gT 24 [.int .i64 3, .int .i64 1, .int .i64 0, .slice (some ⟨w.heap.size, 0, none⟩) 3 3] ∧ Row W gF 24 [.int .i64 3, .int .i64 1, .int .i64 0, .slice (some ⟨w.heap.size, 0, none⟩) 3 3] ∧ gT ≠ gF ∧ w.heap.size + 1 < gT ∧ w.heap.size + 1 < gF) → K { tmps := #[.bool false, .pointer (some ⟨w.heap.size + 1, 0, none⟩), .pointer (some ⟨gT, 0, none⟩), .pointer (some ⟨gF, 0, none⟩), undef, undef, undef, undef, undef, undef, undef, undef, undef, undef, .slice (some ⟨w.heap.size, 0, none⟩) 3 3, .agg #[.int .i64 3, .int .i64 1, .int .i64 0, .slice (some ⟨w.heap.size, 0, none⟩) 3 3], .agg #[.int .i64 3, .int .i64 1, .int .i64 0, .slice (some ⟨w.heap.size, 0, none⟩) 3 3], .agg #[.int .i64 3, .int .i64 1, .int .i64 0, .slice (some ⟨w.heap.size, 0, none⟩) 3 3], undef, undef, undef, undef, undef, undef, undef, undef, undef, undef, undef, undef, undef, undef, undef, undef, undef, undef, undef, undef, undef, undef, undef, undef, undef, undef, undef, undef, undef, undef, undef, undef, undef, undef, undef, undef, undef, undef, undef, undef, undef, undef, undef, undef, undef, undef, undef, undef, undef, undef, undef, undef, undef, undef, undef, undef, undef, undef, undef, undef, undef, undef, undef, undef, undef, undef, undef, undef, undef, undef, undef, undef, undef, undef, undef, undef, undef, undef, undef, undef, undef, undef, undef, undef, undef, undef, undef, undef, undef, undef, undef, undef, undef, undef, undef, undef, undef, undef, undef, undef, undef, undef, undef, undef, undef, undef, undef, undef, undef, undef, undef, undef, undef, undef, undef, undef, undef, undef, undef, undef, undef], defers := [] } W := by
    rintro gT gF W ⟨hb0, ri, rd, rt, rf, hne, hT, hF⟩
    apply hK
    clear hK K
    have HB0 : Hid (Below w.heap.size w W) := hb0
    have RI : Hid (Row ((W.setCell ⟨gT, 2, none⟩ (.int .i64 1)).setCell ⟨gF, 2, none⟩ (.int .i64 2)) w.heap.size 3 [.int .i64 1, .int .i64 2, .int .i64 0]) := (ri.far (by show w.heap.size ≠ gT; omega) _).far (by show w.heap.size ≠ gF; omega) _
    have RD : Hid (Row ((W.setCell ⟨gT, 2, none⟩ (.int .i64 1)).setCell ⟨gF, 2, none⟩ (.int .i64 2)) (w.heap.size + 1) 24 [.int .i64 3, .int .i64 1, .int .i64 0, .slice (some ⟨w.heap.size, 0, none⟩) 3 3]) := (rd.far (by show w.heap.size + 1 ≠ gT; omega) _).far (by show w.heap.size + 1 ≠ gF; omega) _
    have RT : Hid (Row ((W.setCell ⟨gT, 2, none⟩ (.int .i64 1)).setCell ⟨gF, 2, none⟩ (.int .i64 2)) gT 24 [.int .i64 3, .int .i64 1, .int .i64 1, .slice (some ⟨w.heap.size, 0, none⟩) 3 3]) := (rt.set 2 _).far (by show gT ≠ gF; exact hne) _
    have RF : Hid (Row ((W.setCell ⟨gT, 2, none⟩ (.int .i64 1)).setCell ⟨gF, 2, none⟩ (.int .i64 2)) gF 24 [.int .i64 3, .int .i64 1, .int .i64 2, .slice (some ⟨w.heap.size, 0, none⟩) 3 3]) := (rf.far (by show gF ≠ gT; omega) _).set 2 _
    have HB : Hid (Below w.heap.size w ((W.setCell ⟨gT, 2, none⟩ (.int .i64 1)).setCell ⟨gF, 2, none⟩ (.int .i64 2))) := (hb0.setCell (by show w.heap.size ≤ gT; omega) _).setCell (by show w.heap.size ≤ gF; omega) _
    have t0 := rt.cell 0
    have t1 := rt.cell 1
    have t2 := rt.cell 2
    have t3 := rt.cell 3
    have u2 := rt.frozen 2
    have f0 := rf.cell 0
    have f1 := rf.cell 1
    have f2 := rf.cell 2
    have f3 := rf.cell 3
    have v2 := rf.frozen 2
    simp only [List.getElem?_cons_zero, List.getElem?_cons_succ] at t0 t1 t2 t3 f0 f1 f2 f3
    have hne' : gF ≠ gT := fun e => hne e.symm
    clear hb0 ri rd rt rf
    go_wp2_with fail
    clear t0 t1 t2 t3 u2 f0 f1 f2 f3 v2
    revert RI RD RT RF HB
    generalize (W.setCell ⟨gT, 2, none⟩ (.int .i64 1)).setCell ⟨gF, 2, none⟩ (.int .i64 2) = w0
    intro RI RD RT RF HB
    clear HB0
    -- Roll(t, 1, 0)
    refine (gRoll_any gt (some ⟨w.heap.size, 0, none⟩) 3 3 1 0 _ ⟨by exact RI.out.rd rfl, by unfold maxLen; omega⟩).mono ?_
    rintro e w1 ⟨RA, rn, rc, rfl, hg, hb⟩
    rw [al_roll.1] at hg ⊢
    rw [al_roll.2.1]
    obtain rfl : 3 = rn := hg.cl
    obtain ⟨ar, rfl, hrl0, r00⟩ := hg.cells.int (k := 0) (by omega)
    obtain ⟨ar', era, _, r11⟩ := hg.cells.int (k := 1) (by omega)
    cases era
    have GR : Hid (GAt w1 gr (some ar) 3) := hg
    have HB := (show Hid (Below w.heap.size w w1) from below_on2 HB.out hb)
    have RI := (show Hid (Row w1 _ _ _) from rowCells RI.out hb)
    have RD := (show Hid (Row w1 _ _ _) from rowCells RD.out hb)
    have RT := (show Hid (Row w1 _ _ _) from rowCells RT.out hb)
    have RF := (show Hid (Row w1 _ _ _) from rowCells RF.out hb)
    clear hb hg
    have R0 : Hid (w1.cell? ar = some (.int .i64 0)) := r00
    have R1 : Hid (w1.cell? ⟨ar.block, ar.off + 1, none⟩ = some (.int .i64 1)) := r11
    have HRL : Hid (ar.block < w1.heap.size) := hrl0
    clear r00 r11 hrl0
    have c0 := RD.out.cell 0
    have c1 := RD.out.cell 1
    have c2 := RD.out.cell 2
    have c3 := RD.out.cell 3
    have l1 := RD.out.lt
    simp only [List.getElem?_cons_zero, List.getElem?_cons_succ] at c0 c1 c2 c3
    go_wp2_with fail
    -- Roll(d, 1, 0)
    refine (gRoll_any gd (some ⟨w.heap.size, 0, none⟩) 3 3 1 0 _ ⟨by exact (RI.out.alloc _).rd rfl, by unfold maxLen; omega⟩).mono ?_
    rintro e w2 ⟨A2, n2, c2', rfl, _, hb⟩
    rw [al_roll.2.2]
    have hn : Below w1.heap.size w1 w2 := below_next hb (by go_grown)
    have RR : Hid (Row w2 w1.heap.size 24 [.int .i64 3, .int .i64 1, .int .i64 1, .slice (some ar) 3 rc]) := rowCells (Row.new w1 24 [.int .i64 3, .int .i64 1, .int .i64 1, .slice (some ar) 3 rc]) hb
    have HB := (show Hid (Below w.heap.size w w2) from below_on2 HB.out hn)
    have RI := (show Hid (Row w2 _ _ _) from rowCells RI.out hn)
    have RD := (show Hid (Row w2 _ _ _) from rowCells RD.out hn)
    have RT := (show Hid (Row w2 _ _ _) from rowCells RT.out hn)
    have RF := (show Hid (Row w2 _ _ _) from rowCells RF.out hn)
    have R0 := (show Hid (w2.cell? ar = _) from (hn.cell (p := ar) HRL.out).trans R0.out)
    have R1 := (show Hid (w2.cell? ⟨ar.block, ar.off + 1, none⟩ = _) from (hn.cell (p := ⟨ar.block, ar.off + 1, none⟩) HRL.out).trans R1.out)
    have HRL := (show Hid (ar.block < w2.heap.size) from Nat.lt_of_lt_of_le HRL.out hn.size)
    clear hb hn c0 c1 c2 c3 l1 GR
    go_wp2_with fail
    -- From(.., 3, 1, 0)
    refine (gFrom_any gp (some ⟨w2.heap.size + 1, 0, none⟩) 1 1 3 1 0 _ (by exact (rowNew1 w2 _ 34 (gatesCells gp)).rd rfl) (by unfold maxLen; omega)).mono ?_
    rintro e w3 ⟨A3, n3, c3', rfl, _, hb⟩
    rw [al_from]
    have hn : Below w2.heap.size w2 w3 := below_next hb (by go_grown)
    have HB := (show Hid (Below w.heap.size w w3) from below_on2 HB.out hn)
    have RI := (show Hid (Row w3 _ _ _) from rowCells RI.out hn)
    have RD := (show Hid (Row w3 _ _ _) from rowCells RD.out hn)
    have RT := (show Hid (Row w3 _ _ _) from rowCells RT.out hn)
    have RF := (show Hid (Row w3 _ _ _) from rowCells RF.out hn)
    have RR := (show Hid (Row w3 _ _ _) from rowCells RR.out hn)
    have R0 := (show Hid (w3.cell? ar = _) from (hn.cell (p := ar) HRL.out).trans R0.out)
    have R1 := (show Hid (w3.cell? ⟨ar.block, ar.off + 1, none⟩ = _) from (hn.cell (p := ⟨ar.block, ar.off + 1, none⟩) HRL.out).trans R1.out)
    have HRL := (show Hid (ar.block < w3.heap.size) from Nat.lt_of_lt_of_le HRL.out hn.size)
    clear hb hn
    go_wp2_with fail
    -- New(3, 1, 0)
    refine (gNew_any 3 1 0 _).mono ?_
    rintro e w4 (⟨hk, _⟩ | ⟨_, g4, rfl, hrow, _, hb⟩)
    · rw [al_sized] at hk; cases hk
    rw [show (3 * 1 : Int).toNat = 3 from rfl] at hrow ⊢
    have hn : Below w3.heap.size w3 w4 := below_next hb (by go_grown)
    have RN : Hid (Row w4 g4 3 (ints gn.cells)) := hrow
    have HB := (show Hid (Below w.heap.size w w4) from below_on2 HB.out hn)
    have RI := (show Hid (Row w4 _ _ _) from rowCells RI.out hn)
    have RD := (show Hid (Row w4 _ _ _) from rowCells RD.out hn)
    have RT := (show Hid (Row w4 _ _ _) from rowCells RT.out hn)
    have RF := (show Hid (Row w4 _ _ _) from rowCells RF.out hn)
    have RR := (show Hid (Row w4 _ _ _) from rowCells RR.out hn)
    have R0 := (show Hid (w4.cell? ar = _) from (hn.cell (p := ar) HRL.out).trans R0.out)
    have R1 := (show Hid (w4.cell? ⟨ar.block, ar.off + 1, none⟩ = _) from (hn.cell (p := ⟨ar.block, ar.off + 1, none⟩) HRL.out).trans R1.out)
    have HRL := (show Hid (ar.block < w4.heap.size) from Nat.lt_of_lt_of_le HRL.out hn.size)
    clear hb hn hrow
    go_wp2_with fail
    -- Set(n, 1, 0, 2)
    refine (gSet_any gn (some ⟨g4, 0, none⟩) 3 3 1 0 2 _ ⟨by exact (RN.out.alloc _).rd rfl, by unfold maxLen; omega⟩).mono ?_
    rintro e w5 ⟨SA, sn, sc, rfl, hg, hb⟩
    rw [al_set.1] at hg ⊢
    rw [al_set.2]
    obtain rfl : 3 = sn := hg.cl
    have GS : Hid (GAt w5 gs SA 3) := hg
    have hn : Below w4.heap.size w4 w5 := below_next hb (by go_grown)
    have HB := (show Hid (Below w.heap.size w w5) from below_on2 HB.out hn)
    have RI := (show Hid (Row w5 _ _ _) from rowCells RI.out hn)
    have RD := (show Hid (Row w5 _ _ _) from rowCells RD.out hn)
    have RT := (show Hid (Row w5 _ _ _) from rowCells RT.out hn)
    have RF := (show Hid (Row w5 _ _ _) from rowCells RF.out hn)
    have RR := (show Hid (Row w5 _ _ _) from rowCells RR.out hn)
    have R0 := (show Hid (w5.cell? ar = _) from (hn.cell (p := ar) HRL.out).trans R0.out)
    have R1 := (show Hid (w5.cell? ⟨ar.block, ar.off + 1, none⟩ = _) from (hn.cell (p := ⟨ar.block, ar.off + 1, none⟩) HRL.out).trans R1.out)
    have HRL := (show Hid (ar.block < w5.heap.size) from Nat.lt_of_lt_of_le HRL.out hn.size)
    clear hb hn hg RN
    have k0 := RD.out.cell 0
    have k1 := RD.out.cell 1
    have k2 := RD.out.cell 2
    have k3 := RD.out.cell 3
    have l1 := RD.out.lt
    simp only [List.getElem?_cons_zero, List.getElem?_cons_succ] at k0 k1 k2 k3
    go_wp2_with fail
    clear k0 k1 k2 k3 l1
    have RS : Hid (Row (World.alloc w5 (.cells #[.int .i64 gs.w, .int .i64 gs.h, .int .i64 gs.edge, .slice SA 3 sc] 24)) w5.heap.size 24 [.int .i64 3, .int .i64 1, .int .i64 0, .slice SA 3 sc]) := Row.new w5 24 [.int .i64 3, .int .i64 1, .int .i64 0, .slice SA 3 sc]
    have hn : Below w5.heap.size w5 (World.alloc w5 (.cells #[.int .i64 gs.w, .int .i64 gs.h, .int .i64 gs.edge, .slice SA 3 sc] 24)) := by go_grown
    have HB := (show Hid (Below w.heap.size w (World.alloc w5 (.cells #[.int .i64 gs.w, .int .i64 gs.h, .int .i64 gs.edge, .slice SA 3 sc] 24))) from below_on2 HB.out hn)
    have GS := (show Hid (GAt (World.alloc w5 (.cells #[.int .i64 gs.w, .int .i64 gs.h, .int .i64 gs.edge, .slice SA 3 sc] 24)) gs SA 3) from GS.out.up hn)
    have RI := (show Hid (Row (World.alloc w5 (.cells #[.int .i64 gs.w, .int .i64 gs.h, .int .i64 gs.edge, .slice SA 3 sc] 24)) _ _ _) from rowCells RI.out hn)
    have RD := (show Hid (Row (World.alloc w5 (.cells #[.int .i64 gs.w, .int .i64 gs.h, .int .i64 gs.edge, .slice SA 3 sc] 24)) _ _ _) from rowCells RD.out hn)
    have RT := (show Hid (Row (World.alloc w5 (.cells #[.int .i64 gs.w, .int .i64 gs.h, .int .i64 gs.edge, .slice SA 3 sc] 24)) _ _ _) from rowCells RT.out hn)
    have RF := (show Hid (Row (World.alloc w5 (.cells #[.int .i64 gs.w, .int .i64 gs.h, .int .i64 gs.edge, .slice SA 3 sc] 24)) _ _ _) from rowCells RF.out hn)
    have RR := (show Hid (Row (World.alloc w5 (.cells #[.int .i64 gs.w, .int .i64 gs.h, .int .i64 gs.edge, .slice SA 3 sc] 24)) _ _ _) from rowCells RR.out hn)
    have R0 := (show Hid (World.cell? (World.alloc w5 (.cells #[.int .i64 gs.w, .int .i64 gs.h, .int .i64 gs.edge, .slice SA 3 sc] 24)) ar = _) from (hn.cell (p := ar) HRL.out).trans R0.out)
    have R1 := (show Hid (World.cell? (World.alloc w5 (.cells #[.int .i64 gs.w, .int .i64 gs.h, .int .i64 gs.edge, .slice SA 3 sc] 24)) ⟨ar.block, ar.off + 1, none⟩ = _) from (hn.cell (p := ⟨ar.block, ar.off + 1, none⟩) HRL.out).trans R1.out)
    have HRL := (show Hid (ar.block < (World.alloc w5 (.cells #[.int .i64 gs.w, .int .i64 gs.h, .int .i64 gs.edge, .slice SA 3 sc] 24)).heap.size) from Nat.lt_of_lt_of_le HRL.out hn.size)
    clear hn
    revert RS HB GS RI RD RT RF RR R0 R1 HRL
    generalize World.alloc w5 (.cells #[.int .i64 gs.w, .int .i64 gs.h, .int .i64 gs.edge, .slice SA 3 sc] 24) = w6
    intro RS HB GS RI RD RT RF RR R0 R1 HRL
    have hrl := HRL.out
    have r0 := R0.out
    have r1 := R1.out
    have HS : Hid (∀ w', Below w6.heap.size w6 w' → w'.cell? ⟨w.heap.size + 1, 0, none⟩ = some (.int .i64 3) ∧ w'.cell? ⟨w.heap.size + 1, 1, none⟩ = some (.int .i64 1) ∧ w'.cell? ⟨w.heap.size + 1, 2, none⟩ = some (.int .i64 0) ∧ w'.cell? ⟨w.heap.size + 1, 3, none⟩ = some (.slice (some ⟨w.heap.size, 0, none⟩) 3 3) ∧ w'.cell? ⟨gT, 0, none⟩ = some (.int .i64 3) ∧ w'.cell? ⟨gT, 1, none⟩ = some (.int .i64 1) ∧ w'.cell? ⟨gT, 2, none⟩ = some (.int .i64 1) ∧ w'.cell? ⟨gT, 3, none⟩ = some (.slice (some ⟨w.heap.size, 0, none⟩) 3 3) ∧ w'.cell? ⟨gF, 0, none⟩ = some (.int .i64 3) ∧ w'.cell? ⟨gF, 1, none⟩ = some (.int .i64 1) ∧ w'.cell? ⟨gF, 2, none⟩ = some (.int .i64 2) ∧ w'.cell? ⟨gF, 3, none⟩ = some (.slice (some ⟨w.heap.size, 0, none⟩) 3 3) ∧ w'.cell? ⟨w1.heap.size, 3, none⟩ = some (.slice (some ar) 3 rc) ∧ w'.cell? ar = some (.int .i64 0) ∧ w'.cell? ⟨ar.block, ar.off + 1, none⟩ = some (.int .i64 1) ∧ w'.cell? ⟨w5.heap.size, 0, none⟩ = some (.int .i64 3) ∧ w'.cell? ⟨w5.heap.size, 1, none⟩ = some (.int .i64 1) ∧ w'.cell? ⟨w5.heap.size, 2, none⟩ = some (.int .i64 0) ∧ w'.cell? ⟨w5.heap.size, 3, none⟩ = some (.slice SA 3 sc)) := fun w' hw => ⟨(rowCells RD.out hw).cell 0, (rowCells RD.out hw).cell 1, (rowCells RD.out hw).cell 2, (rowCells RD.out hw).cell 3, (rowCells RT.out hw).cell 0, (rowCells RT.out hw).cell 1, (rowCells RT.out hw).cell 2, (rowCells RT.out hw).cell 3, (rowCells RF.out hw).cell 0, (rowCells RF.out hw).cell 1, (rowCells RF.out hw).cell 2, (rowCells RF.out hw).cell 3, (rowCells RR.out hw).cell 3, (hw.cell (p := ar) hrl).trans r0, (hw.cell (p := ⟨ar.block, ar.off + 1, none⟩) hrl).trans r1, (rowCells RS.out hw).cell 0, (rowCells RS.out hw).cell 1, (rowCells RS.out hw).cell 2, (rowCells RS.out hw).cell 3⟩
    clear hrl r0 r1
    have GD : Hid (GAt w6 gd (some ⟨w.heap.size, 0, none⟩) 3) := ⟨RI.out.rd rfl, by unfold maxLen; omega⟩
    have GT : Hid (GAt w6 gt (some ⟨w.heap.size, 0, none⟩) 3) := ⟨RI.out.rd rfl, by unfold maxLen; omega⟩
    have GF : Hid (GAt w6 gf (some ⟨w.heap.size, 0, none⟩) 3) := ⟨RI.out.rd rfl, by unfold maxLen; omega⟩
    have HN : Hid (Below w6.heap.size w6 w6) := Below.refl _ _
    clear RI RD RT RF RR R0 R1 HRL RS
    refine (gGet_any gd (some ⟨w.heap.size, 0, none⟩) 3 3 (-1) 0 _ (GD.out.up HN.out)).mono ?_
    rw [al_d1]
    rintro e w7 ⟨rfl, hb⟩
    have HN := (show Hid (Below w6.heap.size w6 w7) from below_on2 HN.out hb)
    clear hb
    have C := HS.out w7 HN.out
    go_wp2_with fail
    refine (gGet_any gf (some ⟨w.heap.size, 0, none⟩) 3 3 (-1) 0 _ (GF.out.up HN.out)).mono ?_
    rw [al_f1]
    rintro e w7 ⟨rfl, hb⟩
    clear C
    have HN := (show Hid (Below w6.heap.size w6 w7) from below_on2 HN.out hb)
    clear hb
    have C := HS.out w7 HN.out
    go_wp2_with fail
    refine (gGet_any gd (some ⟨w.heap.size, 0, none⟩) 3 3 4 0 _ (GD.out.up HN.out)).mono ?_
    rw [al_d4]
    rintro e w7 ⟨rfl, hb⟩
    clear C
    have HN := (show Hid (Below w6.heap.size w6 w7) from below_on2 HN.out hb)
    clear hb
    have C := HS.out w7 HN.out
    go_wp2_with fail
    refine (gGet_any gt (some ⟨w.heap.size, 0, none⟩) 3 3 4 0 _ (GT.out.up HN.out)).mono ?_
    rw [al_t4]
    rintro e w7 ⟨rfl, hb⟩
    clear C
    have HN := (show Hid (Below w6.heap.size w6 w7) from below_on2 HN.out hb)
    clear hb
    have C := HS.out w7 HN.out
    go_wp2_with fail
    refine (gGet_any gf (some ⟨w.heap.size, 0, none⟩) 3 3 4 0 _ (GF.out.up HN.out)).mono ?_
    rw [al_f4]
    rintro e w7 ⟨rfl, hb⟩
    clear C
    have HN := (show Hid (Below w6.heap.size w6 w7) from below_on2 HN.out hb)
    clear hb
    have C := HS.out w7 HN.out
    go_wp2_with fail
    refine (gGet_any gs SA 3 sc 1 0 _ (GS.out.up HN.out)).mono ?_
    rw [al_s1]
    rintro e w7 ⟨rfl, hb⟩
    clear C
    have HN := (show Hid (Below w6.heap.size w6 w7) from below_on2 HN.out hb)
    clear hb
    have C := HS.out w7 HN.out
    go_wp2_with fail
    refine (gPattern_any gd (some ⟨w.heap.size, 0, none⟩) 3 3 _ (GD.out.up HN.out)).mono ?_
    rintro e w7 ⟨PA, pn, pc, rfl, hp, _, hb⟩
    obtain rfl : 2 = pn := by have := hp.1; rw [gatesCells_length, al_pat] at this; omega
    clear hp
    clear C
    have HN := (show Hid (Below w6.heap.size w6 w7) from below_on2 HN.out hb)
    clear hb
    have C := HS.out w7 HN.out
    go_wp2_with fail
    refine (gRight_any gd (some ⟨w.heap.size, 0, none⟩) 3 3 _ (GD.out.up HN.out)).mono ?_
    rw [al_rights.1]
    rintro e w7 ⟨rfl, hb⟩
    clear C
    have HN := (show Hid (Below w6.heap.size w6 w7) from below_on2 HN.out hb)
    clear hb
    have C := HS.out w7 HN.out
    go_wp2_with fail
    refine (gRight_any noGrd none 0 0 _ (noGrd_at _)).mono ?_
    rw [al_rights.2]
    rintro e w7 ⟨rfl, hb⟩
    clear C
    have HN := (show Hid (Below w6.heap.size w6 w7) from below_on2 HN.out hb)
    clear hb
    have C := HS.out w7 HN.out
    go_wp2_with fail
    refine (gSame_any gd gd (some ⟨w.heap.size, 0, none⟩) (some ⟨w.heap.size, 0, none⟩) 3 3 3 3 _ (GD.out.up HN.out) (GD.out.up HN.out)).mono ?_
    rw [al_sames.1]
    rintro e w7 ⟨rfl, hb⟩
    clear C
    have HN := (show Hid (Below w6.heap.size w6 w7) from below_on2 HN.out hb)
    clear hb
    have C := HS.out w7 HN.out
    go_wp2_with fail
    refine (gSame_any gd gt (some ⟨w.heap.size, 0, none⟩) (some ⟨w.heap.size, 0, none⟩) 3 3 3 3 _ (GD.out.up HN.out) (GT.out.up HN.out)).mono ?_
    rw [al_sames.2]
    rintro e w7 ⟨rfl, hb⟩
    clear C
    have HN := (show Hid (Below w6.heap.size w6 w7) from below_on2 HN.out hb)
    clear hb
    have C := HS.out w7 HN.out
    go_wp2
    go_ret
    exact ⟨rfl, below_on2 HB.out HN.out⟩
  go_region
  · exact key (w.heap.size + 1 + 1) (w.heap.size + 1 + 1 + 1) _ ⟨by go_grown, (((Row.new w 3 [.int .i64 1, .int .i64 2, .int .i64 0]).alloc _).alloc _).alloc _, ((rowNew1 w _ 24 [.int .i64 3, .int .i64 1, .int .i64 0, .slice (some ⟨w.heap.size, 0, none⟩) 3 3]).alloc _).alloc _, (rowNew2 w _ _ 24 [.int .i64 3, .int .i64 1, .int .i64 0, .slice (some ⟨w.heap.size, 0, none⟩) 3 3]).alloc _, rowNew3 w _ _ _ 24 [.int .i64 3, .int .i64 1, .int .i64 0, .slice (some ⟨w.heap.size, 0, none⟩) 3 3], by omega, by omega, by omega⟩
  · exact key (w.heap.size + 1 + 1 + 1) (w.heap.size + 1 + 1) _ ⟨by go_grown, (((Row.new w 3 [.int .i64 1, .int .i64 2, .int .i64 0]).alloc _).alloc _).alloc _, ((rowNew1 w _ 24 [.int .i64 3, .int .i64 1, .int .i64 0, .slice (some ⟨w.heap.size, 0, none⟩) 3 3]).alloc _).alloc _, rowNew3 w _ _ _ 24 [.int .i64 3, .int .i64 1, .int .i64 0, .slice (some ⟨w.heap.size, 0, none⟩) 3 3], (rowNew2 w _ _ 24 [.int .i64 3, .int .i64 1, .int .i64 0, .slice (some ⟨w.heap.size, 0, none⟩) 3 3]).alloc _, by omega, by omega, by omega⟩
end Go.Proofs.Ytoldjjgogdbalaa
