/-
  The law GridRolls: what it does.
-/
import Derived.Test.YtoldjjgogdbalaaGAlive
import Derived.Test.YtoldjjgogdbalaaGRefFrom
import Derived.Test.YtoldjjgogdbalaaPat5d
import Derived.Test.YtoldjjgogdbalaaGRefRight
import Derived.Test.YtoldjjgogdbalaaGRefRoll
namespace Go.Proofs.Ytoldjjgogdbalaa
open Go.RowKit
set_option linter.unusedSimpArgs false
set_option linter.unusedVariables false

theorem sameG_self3 (a : Grd) : sameG a a = true := (sameG_iff a a).2 rfl

set_option maxRecDepth 100000 in
set_option maxHeartbeats 4000000 in
theorem lawRolls_any (g : Grd) (A : Option Addr) (n c : Nat) (dx dy : Int) (w : World) (h : GAt w g A n) (xl : -9223372036854775808 ≤ dx) (xh : dx ≤ 9223372036854775807) (yl : -9223372036854775808 ≤ dy) (yh : dy ≤ 9223372036854775807) :
    Calls Try.prog 8 #[.agg #[.int .i64 g.w, .int .i64 g.h, .int .i64 g.edge, .slice A n c], .int .i64 dx, .int .i64 dy] w fun e w' => e = .returned (.bool true) ∧ Below w.heap.size w w' := by
  have H : Hid (GAt w g A n) := h
  clear h
  go_enter Try.func8, Try.ntmps8
  go_wp2_with fail
  refine (gfew_any g A n c _ (H.out.up (by go_grown))).mono ?_
  rintro e w2 ⟨rfl, hb⟩
  have HB : Hid (Below w.heap.size w w2) := below_next hb (by go_grown)
  have RC : Hid (Row w2 w.heap.size 24 [.int .i64 g.w, .int .i64 g.h, .int .i64 g.edge, .slice A n c]) := rowCells (Row.new w 24 [.int .i64 g.w, .int .i64 g.h, .int .i64 g.edge, .slice A n c]) hb
  clear hb
  cases hf : fewG g
  · clear RC
    go_wp2_with fail
    refine (galive_any _).mono ?_
    rintro e w9 ⟨rfl, hb⟩
    have HBE : Hid (Below w.heap.size w w9) := below_on HB.out (by go_grown) hb
    clear hb
    go_wp2
    go_ret
    exact ⟨rfl, HBE.out⟩
  clear hf
  have HRB : Hid (rollErr g = 0 → rollErr (rollR g dx dy) = 0 ∧ rollR (rollR g dx dy) (-dx) (-dy) = g) := roll_back g dx dy
  have c0 := RC.out.cell 0
  have c1 := RC.out.cell 1
  have c2 := RC.out.cell 2
  have c3 := RC.out.cell 3
  have l1 := RC.out.lt
  simp only [List.getElem?_cons_zero, List.getElem?_cons_succ] at c0 c1 c2 c3
  go_wp2_with fail
  refine (gRoll_any g A n c dx dy _ (H.out.up HB.out)).mono ?_
  rintro e w3 ⟨JA, jn, jc, rfl, hj, hb⟩
  have HJ : Hid (GAt w3 (rollR g dx dy) JA jn) := hj
  have HB := (show Hid (Below w.heap.size w w3) from below_on2 HB.out hb)
  have RC := (show Hid (Row w3 _ _ _) from rowCells RC.out hb)
  clear hb hj c0 c1 c2 c3 l1
  have c0 := RC.out.cell 0
  have c1 := RC.out.cell 1
  have c2 := RC.out.cell 2
  have c3 := RC.out.cell 3
  have l1 := RC.out.lt
  simp only [List.getElem?_cons_zero, List.getElem?_cons_succ] at c0 c1 c2 c3
  go_wp2_with fail
  refine (rGRoll_any g A n c dx dy _ (H.out.up (below_on2 HB.out (by go_grown)))).mono ?_
  rintro e w4 ⟨KA, kn, kc, rfl, hk, hb⟩
  have HK : Hid (GAt w4 (rollR g dx dy) KA kn) := hk
  have hn4 : Below w3.heap.size w3 w4 := below_next hb (by go_grown)
  have RJ : Hid (Row w4 w3.heap.size 24 [.int .i64 (rollR g dx dy).w, .int .i64 (rollR g dx dy).h, .int .i64 (rollR g dx dy).edge, .slice JA jn jc]) := rowCells (Row.new w3 24 [.int .i64 (rollR g dx dy).w, .int .i64 (rollR g dx dy).h, .int .i64 (rollR g dx dy).edge, .slice JA jn jc]) hb
  have HB := (show Hid (Below w.heap.size w w4) from below_on2 HB.out hn4)
  have HJ := (show Hid (GAt w4 _ _ _) from HJ.out.up hn4)
  have RC := (show Hid (Row w4 _ _ _) from rowCells RC.out hn4)
  clear hb hk hn4 c0 c1 c2 c3 l1
  have j0 := RJ.out.cell 0
  have j1 := RJ.out.cell 1
  have j2 := RJ.out.cell 2
  have j3 := RJ.out.cell 3
  have m1 := RJ.out.lt
  simp only [List.getElem?_cons_zero, List.getElem?_cons_succ] at j0 j1 j2 j3
  go_wp2_with fail
  refine (rGSame_any (rollR g dx dy) (rollR g dx dy) JA KA jn jc kn kc _ (HJ.out.up (by go_grown)) (HK.out.up (by go_grown))).mono ?_
  rw [sameG_self3]
  rintro e w5 ⟨rfl, hb⟩
  have hn5 : Below w4.heap.size w4 w5 := below_next hb (by go_grown)
  have HB := (show Hid (Below w.heap.size w w5) from below_on2 HB.out hn5)
  have HJ := (show Hid (GAt w5 _ _ _) from HJ.out.up hn5)
  have RC := (show Hid (Row w5 _ _ _) from rowCells RC.out hn5)
  have RJ := (show Hid (Row w5 _ _ _) from rowCells RJ.out hn5)
  clear hb hn5 j0 j1 j2 j3 m1 HK
  generalize hk : rollErr g = k at HRB ⊢
  clear hk
  have hkk : (k != k) = false := by simp
  by_cases h0 : k = 0
  · subst h0
    have HR0 : Hid (rollErr (rollR g dx dy) = 0 ∧ rollR (rollR g dx dy) (-dx) (-dy) = g) := HRB.out rfl
    clear HRB
    by_cases hx : dx = -9223372036854775808
    · have hxb : (dx == -9223372036854775808) = true := by simpa using hx
      clear RJ HJ RC hx
      go_wp2_with fail
      refine (galive_any _).mono ?_
      rintro e w9 ⟨rfl, hb⟩
      have HBE : Hid (Below w.heap.size w w9) := below_on HB.out (by go_grown) hb
      clear hb
      go_wp2
      go_ret
      exact ⟨rfl, HBE.out⟩
    · by_cases hy : dy = -9223372036854775808
      · have hxb : (dx == -9223372036854775808) = false := by simpa using hx
        have hyb : (dy == -9223372036854775808) = true := by simpa using hy
        clear RJ HJ RC hx hy
        go_wp2_with fail
        refine (galive_any _).mono ?_
        rintro e w9 ⟨rfl, hb⟩
        have HBE : Hid (Below w.heap.size w w9) := below_on HB.out (by go_grown) hb
        clear hb
        go_wp2
        go_ret
        exact ⟨rfl, HBE.out⟩
      · have hxb : (dx == -9223372036854775808) = false := by simpa using hx
        have hyb : (dy == -9223372036854775808) = false := by simpa using hy
        have hwx : IntKind.i64.wrap (-dx) = -dx := IntWalk.i64_in _ (by omega)
        have hwy : IntKind.i64.wrap (-dy) = -dy := IntWalk.i64_in _ (by omega)
        have j0 := RJ.out.cell 0
        have j1 := RJ.out.cell 1
        have j2 := RJ.out.cell 2
        have j3 := RJ.out.cell 3
        have m1 := RJ.out.lt
        simp only [List.getElem?_cons_zero, List.getElem?_cons_succ] at j0 j1 j2 j3
        go_wp2_with fail
        refine (gRoll_any (rollR g dx dy) JA jn jc (-dx) (-dy) _ HJ.out).mono ?_
        rintro e w6 ⟨LA, ln, lc, rfl, hl, hb⟩
        rw [HR0.out.2] at hl ⊢
        rw [HR0.out.1]
        have HL : Hid (GAt w6 g LA ln) := hl
        have HB := (show Hid (Below w.heap.size w w6) from below_on2 HB.out hb)
        have RC := (show Hid (Row w6 _ _ _) from rowCells RC.out hb)
        clear hb hl j0 j1 j2 j3 m1 RJ HJ
        have c0 := RC.out.cell 0
        have c1 := RC.out.cell 1
        have c2 := RC.out.cell 2
        have c3 := RC.out.cell 3
        have l1 := RC.out.lt
        simp only [List.getElem?_cons_zero, List.getElem?_cons_succ] at c0 c1 c2 c3
        go_wp2_with fail
        refine (rGSame_any g g LA A ln lc n c _ (HL.out.up (by go_grown)) (H.out.up (below_on2 HB.out (by go_grown)))).mono ?_
        rw [sameG_self3]
        rintro e w7 ⟨rfl, hb⟩
        have RL : Hid (Row w7 w6.heap.size 24 [.int .i64 g.w, .int .i64 g.h, .int .i64 g.edge, .slice LA ln lc]) := rowCells (Row.new w6 24 [.int .i64 g.w, .int .i64 g.h, .int .i64 g.edge, .slice LA ln lc]) hb
        have hn7 : Below w6.heap.size w6 w7 := below_next hb (by go_grown)
        have HB := (show Hid (Below w.heap.size w w7) from below_on2 HB.out hn7)
        have HL := (show Hid (GAt w7 _ _ _) from HL.out.up hn7)
        have RC := (show Hid (Row w7 _ _ _) from rowCells RC.out hn7)
        clear hb hn7 c0 c1 c2 c3 l1
        have c0 := RC.out.cell 0
        have c1 := RC.out.cell 1
        have c2 := RC.out.cell 2
        have c3 := RC.out.cell 3
        have r0 := RL.out.cell 0
        have r1 := RL.out.cell 1
        have r2 := RL.out.cell 2
        have r3 := RL.out.cell 3
        simp only [List.getElem?_cons_zero, List.getElem?_cons_succ] at c0 c1 c2 c3 r0 r1 r2 r3
        go_wp2_with fail
        refine (gSame_any g g LA A ln lc n c _ HL.out (H.out.up HB.out)).mono ?_
        rw [sameG_self3]
        rintro e w8 ⟨rfl, hb⟩
        have HB := (show Hid (Below w.heap.size w w8) from below_on2 HB.out hb)
        clear hb c0 c1 c2 c3 r0 r1 r2 r3 RL RC HL
        go_wp2_with fail
        refine (galive_any _).mono ?_
        rintro e w9 ⟨rfl, hb⟩
        have HBE : Hid (Below w.heap.size w w9) := below_on HB.out (by go_grown) hb
        clear hb
        go_wp2
        go_ret
        exact ⟨rfl, HBE.out⟩
  · have hk0 : (k != 0) = true := by simpa using h0
    clear h0 HRB RJ RC HJ
    go_wp2_with fail
    refine (galive_any _).mono ?_
    rintro e w9 ⟨rfl, hb⟩
    have HBE : Hid (Below w.heap.size w w9) := below_on HB.out (by go_grown) hb
    clear hb
    go_wp2
    go_ret
    exact ⟨rfl, HBE.out⟩
end Go.Proofs.Ytoldjjgogdbalaa
