/-
 A part.
-/
import Derived.Test.YtiemhbogbaamlaaYC38
import Derived.Test.YtiemhbogbaamlaaYC21
namespace Go.Proofs.Ytiemhbogbaamlaa
open Go.RowKit
set_option linter.unusedSimpArgs false
set_option linter.unusedVariables false
def PlRet (r : Pln) (k : Int) (w : World) (e : Ending) (w' : World) : Prop :=
 ∃ (A : Option Addr) (n c : Nat) (sl : List Sl), e = .returned (.tuple #[.agg #[.int .i64 r.w, .int .i64 r.h, .int .i64 r.edge, .slice A n c], .int .i64 k]) ∧ PAt w' r A n sl ∧ Below w.heap.size w w'
set_option maxRecDepth 100000 in
set_option maxHeartbeats 8000000 in
theorem rRun_any (t : Tre) (p : Pln) (HA NA A : Option Addr) (hn hc nn nc n c : Nat) (z : Int) (sl sm : List Sl) (w : World) (ht : TAt w t HA NA hn nn sl) (hp : PAt w p A n sm) (hr : rightT t = true) (h400 : t.nodes.length ≤ 400) :
 Calls Try.prog 20 #[.agg #[.int .i64 t.states, .slice HA hn hc, .slice NA nn nc], .agg #[.int .i64 p.w, .int .i64 p.h, .int .i64 p.edge, .slice A n c], .int .i64 z] w (PlRet (runPl t p z) (runErr t p z) w) := by
 have HT : Hid (TAt w t HA NA hn nn sl) := ht
 have HP : Hid (PAt w p A n sm) := hp
 have HWL : Hid (p.words.length = n) := hp.wl
 have HRT : Hid (rightT t = true) := hr
 have H4 : Hid (t.nodes.length ≤ 400) := h400
 clear ht hp hr h400
 go_enter Try.func20, Try.ntmps20
 go_upto_region 1 with fail
 have RT : Hid (Row (World.alloc (World.alloc (World.alloc w (.cells #[.int .i64 t.states, .slice HA hn hc, .slice NA nn nc] 25)) (.cells #[.int .i64 p.w, .int .i64 p.h, .int .i64 p.edge, .slice A n c] 42)) (.cells #[.int .i64 0, .int .i64 0, .int .i64 0, .slice none 0 0] 42)) (w.heap.size) 25 [.int .i64 t.states, .slice HA hn hc, .slice NA nn nc]) := by
  have h0 := Row.new w 25 [.int .i64 t.states, .slice HA hn hc, .slice NA nn nc]
  try simp only [World.size_alloc] at h0
  exact ((h0.alloc _).alloc _)
 have RP : Hid (Row (World.alloc (World.alloc (World.alloc w (.cells #[.int .i64 t.states, .slice HA hn hc, .slice NA nn nc] 25)) (.cells #[.int .i64 p.w, .int .i64 p.h, .int .i64 p.edge, .slice A n c] 42)) (.cells #[.int .i64 0, .int .i64 0, .int .i64 0, .slice none 0 0] 42)) (w.heap.size + 1) 42 [.int .i64 p.w, .int .i64 p.h, .int .i64 p.edge, .slice A n c]) := by
  have h0 := Row.new (World.alloc w (.cells #[.int .i64 t.states, .slice HA hn hc, .slice NA nn nc] 25)) 42 [.int .i64 p.w, .int .i64 p.h, .int .i64 p.edge, .slice A n c]
  try simp only [World.size_alloc] at h0
  exact (h0.alloc _)
 have RZ : Hid (Row (World.alloc (World.alloc (World.alloc w (.cells #[.int .i64 t.states, .slice HA hn hc, .slice NA nn nc] 25)) (.cells #[.int .i64 p.w, .int .i64 p.h, .int .i64 p.edge, .slice A n c] 42)) (.cells #[.int .i64 0, .int .i64 0, .int .i64 0, .slice none 0 0] 42)) (w.heap.size + 1 + 1) 42 [.int .i64 0, .int .i64 0, .int .i64 0, .slice none 0 0]) := by
  have h0 := Row.new (World.alloc (World.alloc w (.cells #[.int .i64 t.states, .slice HA hn hc, .slice NA nn nc] 25)) (.cells #[.int .i64 p.w, .int .i64 p.h, .int .i64 p.edge, .slice A n c] 42)) 42 [.int .i64 0, .int .i64 0, .int .i64 0, .slice none 0 0]
  try simp only [World.size_alloc] at h0
  exact h0
 have hgr9 : Below w.heap.size w (World.alloc (World.alloc (World.alloc w (.cells #[.int .i64 t.states, .slice HA hn hc, .slice NA nn nc] 25)) (.cells #[.int .i64 p.w, .int .i64 p.h, .int .i64 p.edge, .slice A n c] 42)) (.cells #[.int .i64 0, .int .i64 0, .int .i64 0, .slice none 0 0] 42)) := by go_grown
 have B_w : Hid (Below w.heap.size w (World.alloc (World.alloc (World.alloc w (.cells #[.int .i64 t.states, .slice HA hn hc, .slice NA nn nc] 25)) (.cells #[.int .i64 p.w, .int .i64 p.h, .int .i64 p.edge, .slice A n c] 42)) (.cells #[.int .i64 0, .int .i64 0, .int .i64 0, .slice none 0 0] 42))) := hgr9
 clear hgr9
 revert RT RP RZ B_w
 generalize (World.alloc (World.alloc (World.alloc w (.cells #[.int .i64 t.states, .slice HA hn hc, .slice NA nn nc] 25)) (.cells #[.int .i64 p.w, .int .i64 p.h, .int .i64 p.edge, .slice A n c] 42)) (.cells #[.int .i64 0, .int .i64 0, .int .i64 0, .slice none 0 0] 42)) = wa
 intro RT RP RZ B_w
 have kR : Hid (Row wa (w.heap.size) 25 [.int .i64 t.states, .slice HA hn hc, .slice NA nn nc]) := RT.out
 obtain ⟨k0, k1, k2, kl⟩ := kR.out.cells3
 clear kR
 have jR : Hid (Row wa (w.heap.size + 1) 42 [.int .i64 p.w, .int .i64 p.h, .int .i64 p.edge, .slice A n c]) := RP.out
 obtain ⟨j0, j1, j2, j3, jl⟩ := jR.out.cells4
 clear jR
 go_wp2_with fail
 obtain ⟨ce, hce⟩ : ∃ ce, checkPl t p = ce := ⟨_, rfl⟩
 have HCE : Hid (∀ _ : Unit, checkPl t p = ce) := fun _ => hce
 have hcs := check_cases t p
 have HC := rStep_any t p HA NA A hn hc nn nc n c sl sm wa (HT.out.up B_w.out) (HP.out.up B_w.out) HRT.out H4.out
 rw [hce] at HC hcs
 clear hce
 unfold PlPostA at HC
 refine HC.mono ?_
 clear HC
 rintro e w1 ⟨XA, xn, xc, xs, rfl, -, -, hb⟩
 have B_w : Hid (Below w.heap.size w w1) := below_on2 B_w.out hb
 have B_wa : Hid (Below wa.heap.size wa w1) := hb
 clear k0 k1 k2 kl j0 j1 j2 j3 jl
 clear hb
 obtain ⟨r1, hr1⟩ : ∃ r1, (stepPl t p).w = r1 := ⟨_, rfl⟩
 obtain ⟨r2, hr2⟩ : ∃ r2, (stepPl t p).h = r2 := ⟨_, rfl⟩
 obtain ⟨r3, hr3⟩ : ∃ r3, (stepPl t p).edge = r3 := ⟨_, rfl⟩
 rw [hr1, hr2, hr3]
 clear hr1 hr2 hr3
 go_upto_region 2 with fail
 have hgr9 : Below w1.heap.size w1 (World.alloc w1 (.cells #[.int .i64 r1, .int .i64 r2, .int .i64 r3, .slice XA xn xc] 42)) := by go_grown
 have B_w : Hid (Below w.heap.size w (World.alloc w1 (.cells #[.int .i64 r1, .int .i64 r2, .int .i64 r3, .slice XA xn xc] 42))) := below_on2 B_w.out hgr9
 have B_wa : Hid (Below wa.heap.size wa (World.alloc w1 (.cells #[.int .i64 r1, .int .i64 r2, .int .i64 r3, .slice XA xn xc] 42))) := below_on2 B_wa.out hgr9
 have B_w1 : Hid (Below w1.heap.size w1 (World.alloc w1 (.cells #[.int .i64 r1, .int .i64 r2, .int .i64 r3, .slice XA xn xc] 42))) := hgr9
 clear hgr9
 revert B_w B_wa B_w1
 generalize (World.alloc w1 (.cells #[.int .i64 r1, .int .i64 r2, .int .i64 r3, .slice XA xn xc] 42)) = w2
 intro B_w B_wa B_w1
 have RT1 : Hid (Row w2 w.heap.size 25 [.int .i64 t.states, .slice HA hn hc, .slice NA nn nc]) := (rowCells RT.out B_wa.out)
 have RZ1 : Hid (Row w2 (w.heap.size + 1 + 1) 42 [.int .i64 0, .int .i64 0, .int .i64 0, .slice none 0 0]) := (rowCells RZ.out B_wa.out)
 have RP1 : Hid (Row w2 (w.heap.size + 1) 42 [.int .i64 p.w, .int .i64 p.h, .int .i64 p.edge, .slice A n c]) := (rowCells RP.out B_wa.out)
 have BW1 : Hid (Below w.heap.size w w2) := B_w
 have hs1 : w.heap.size + 1 + 1 < w2.heap.size := RZ1.out.lt
 clear B_w B_wa B_w1 RT RP RZ
 have hbad : ce = 2 ∨ ce = 10 → Hid (∀ _ : Unit, runErr t p z = ce ∧ runPl t p z = noPln) := fun h _ => by
  have h1 : runErr t p z = ce := by unfold runErr; rw [HCE.out (), if_neg (by omega)]
  exact ⟨h1, run_err h1 (by omega)⟩
 rcases hcs with rfl | rfl | rfl
 rotate_left 1
 ·have HB := hbad (.inl rfl)
  clear hbad
  obtain ⟨z0, z1, z2, z3, zl⟩ := RZ1.out.cells4
  have zf0 := RZ1.out.frozen 0
  have zf1 := RZ1.out.frozen 1
  have zf2 := RZ1.out.frozen 2
  have zf3 := RZ1.out.frozen 3
  go_wp2_with fail
  have Z9 : Row (World.setCell (World.setCell (World.setCell (World.setCell w2 ⟨(w.heap.size + 1 + 1), 0, none⟩ (.int .i64 0)) ⟨(w.heap.size + 1 + 1), 1, none⟩ (.int .i64 0)) ⟨(w.heap.size + 1 + 1), 2, none⟩ (.int .i64 0)) ⟨(w.heap.size + 1 + 1), 3, none⟩ (.slice none 0 0)) (w.heap.size + 1 + 1) 42 [.int .i64 0, .int .i64 0, .int .i64 0, .slice none 0 0] := (Row.set (Row.set (Row.set (Row.set RZ1.out 0 (.int .i64 0)) 1 (.int .i64 0)) 2 (.int .i64 0)) 3 (.slice none 0 0))
  have B9 : Below w.heap.size w (World.setCell (World.setCell (World.setCell (World.setCell w2 ⟨(w.heap.size + 1 + 1), 0, none⟩ (.int .i64 0)) ⟨(w.heap.size + 1 + 1), 1, none⟩ (.int .i64 0)) ⟨(w.heap.size + 1 + 1), 2, none⟩ (.int .i64 0)) ⟨(w.heap.size + 1 + 1), 3, none⟩ (.slice none 0 0)) := (Below.setCell (Below.setCell (Below.setCell (Below.setCell BW1.out (p := ⟨(w.heap.size + 1 + 1), 0, none⟩) (by show w.heap.size ≤ w.heap.size + 1 + 1; omega) (.int .i64 0)) (p := ⟨(w.heap.size + 1 + 1), 1, none⟩) (by show w.heap.size ≤ w.heap.size + 1 + 1; omega) (.int .i64 0)) (p := ⟨(w.heap.size + 1 + 1), 2, none⟩) (by show w.heap.size ≤ w.heap.size + 1 + 1; omega) (.int .i64 0)) (p := ⟨(w.heap.size + 1 + 1), 3, none⟩) (by show w.heap.size ≤ w.heap.size + 1 + 1; omega) (.slice none 0 0))
  have d0 := Z9.cell 0
  have d1 := Z9.cell 1
  have d2 := Z9.cell 2
  have d3 := Z9.cell 3
  simp only [List.getElem?_cons_zero, List.getElem?_cons_succ] at d0 d1 d2 d3
  clear Z9
  refine bodyPost_ret (v := .tuple #[.agg #[.int .i64 0, .int .i64 0, .int .i64 0, .slice none 0 0], .int .i64 2]) (by simp [results, Try.results20, go_sem, d0, d1, d2, d3]) rfl ?_
  rw [(HB.out ()).1, (HB.out ()).2]
  exact ⟨none, 0, 0, [], rfl, noPln_at _, B9⟩
 ·have HB := hbad (.inr rfl)
  clear hbad
  obtain ⟨z0, z1, z2, z3, zl⟩ := RZ1.out.cells4
  have zf0 := RZ1.out.frozen 0
  have zf1 := RZ1.out.frozen 1
  have zf2 := RZ1.out.frozen 2
  have zf3 := RZ1.out.frozen 3
  go_wp2_with fail
  have Z9 : Row (World.setCell (World.setCell (World.setCell (World.setCell w2 ⟨(w.heap.size + 1 + 1), 0, none⟩ (.int .i64 0)) ⟨(w.heap.size + 1 + 1), 1, none⟩ (.int .i64 0)) ⟨(w.heap.size + 1 + 1), 2, none⟩ (.int .i64 0)) ⟨(w.heap.size + 1 + 1), 3, none⟩ (.slice none 0 0)) (w.heap.size + 1 + 1) 42 [.int .i64 0, .int .i64 0, .int .i64 0, .slice none 0 0] := (Row.set (Row.set (Row.set (Row.set RZ1.out 0 (.int .i64 0)) 1 (.int .i64 0)) 2 (.int .i64 0)) 3 (.slice none 0 0))
  have B9 : Below w.heap.size w (World.setCell (World.setCell (World.setCell (World.setCell w2 ⟨(w.heap.size + 1 + 1), 0, none⟩ (.int .i64 0)) ⟨(w.heap.size + 1 + 1), 1, none⟩ (.int .i64 0)) ⟨(w.heap.size + 1 + 1), 2, none⟩ (.int .i64 0)) ⟨(w.heap.size + 1 + 1), 3, none⟩ (.slice none 0 0)) := (Below.setCell (Below.setCell (Below.setCell (Below.setCell BW1.out (p := ⟨(w.heap.size + 1 + 1), 0, none⟩) (by show w.heap.size ≤ w.heap.size + 1 + 1; omega) (.int .i64 0)) (p := ⟨(w.heap.size + 1 + 1), 1, none⟩) (by show w.heap.size ≤ w.heap.size + 1 + 1; omega) (.int .i64 0)) (p := ⟨(w.heap.size + 1 + 1), 2, none⟩) (by show w.heap.size ≤ w.heap.size + 1 + 1; omega) (.int .i64 0)) (p := ⟨(w.heap.size + 1 + 1), 3, none⟩) (by show w.heap.size ≤ w.heap.size + 1 + 1; omega) (.slice none 0 0))
  have d0 := Z9.cell 0
  have d1 := Z9.cell 1
  have d2 := Z9.cell 2
  have d3 := Z9.cell 3
  simp only [List.getElem?_cons_zero, List.getElem?_cons_succ] at d0 d1 d2 d3
  clear Z9
  refine bodyPost_ret (v := .tuple #[.agg #[.int .i64 0, .int .i64 0, .int .i64 0, .slice none 0 0], .int .i64 10]) (by simp [results, Try.results20, go_sem, d0, d1, d2, d3]) rfl ?_
  rw [(HB.out ()).1, (HB.out ()).2]
  exact ⟨none, 0, 0, [], rfl, noPln_at _, B9⟩
 clear hbad
 have HBAD : Hid (¬ (0 ≤ z ∧ z ≤ 10000) → runErr t p z = 2 ∧ runPl t p z = noPln) := fun h => by
  have h1 : runErr t p z = 2 := by unfold runErr; rw [if_pos (HCE.out ()), if_neg h]
  exact ⟨h1, run_err h1 (by omega)⟩
 by_cases hz0 : z < 0
 ·have d0 : decide (z < 0) = true := decide_eq_true hz0
  have HB : Hid (runErr t p z = 2 ∧ runPl t p z = noPln) := HBAD.out (by omega)
  obtain ⟨z0, z1, z2, z3, zl⟩ := RZ1.out.cells4
  have zf0 := RZ1.out.frozen 0
  have zf1 := RZ1.out.frozen 1
  have zf2 := RZ1.out.frozen 2
  have zf3 := RZ1.out.frozen 3
  go_wp2_with fail
  have Z9 : Row (World.setCell (World.setCell (World.setCell (World.setCell w2 ⟨(w.heap.size + 1 + 1), 0, none⟩ (.int .i64 0)) ⟨(w.heap.size + 1 + 1), 1, none⟩ (.int .i64 0)) ⟨(w.heap.size + 1 + 1), 2, none⟩ (.int .i64 0)) ⟨(w.heap.size + 1 + 1), 3, none⟩ (.slice none 0 0)) (w.heap.size + 1 + 1) 42 [.int .i64 0, .int .i64 0, .int .i64 0, .slice none 0 0] := (Row.set (Row.set (Row.set (Row.set RZ1.out 0 (.int .i64 0)) 1 (.int .i64 0)) 2 (.int .i64 0)) 3 (.slice none 0 0))
  have B9 : Below w.heap.size w (World.setCell (World.setCell (World.setCell (World.setCell w2 ⟨(w.heap.size + 1 + 1), 0, none⟩ (.int .i64 0)) ⟨(w.heap.size + 1 + 1), 1, none⟩ (.int .i64 0)) ⟨(w.heap.size + 1 + 1), 2, none⟩ (.int .i64 0)) ⟨(w.heap.size + 1 + 1), 3, none⟩ (.slice none 0 0)) := (Below.setCell (Below.setCell (Below.setCell (Below.setCell BW1.out (p := ⟨(w.heap.size + 1 + 1), 0, none⟩) (by show w.heap.size ≤ w.heap.size + 1 + 1; omega) (.int .i64 0)) (p := ⟨(w.heap.size + 1 + 1), 1, none⟩) (by show w.heap.size ≤ w.heap.size + 1 + 1; omega) (.int .i64 0)) (p := ⟨(w.heap.size + 1 + 1), 2, none⟩) (by show w.heap.size ≤ w.heap.size + 1 + 1; omega) (.int .i64 0)) (p := ⟨(w.heap.size + 1 + 1), 3, none⟩) (by show w.heap.size ≤ w.heap.size + 1 + 1; omega) (.slice none 0 0))
  have d0 := Z9.cell 0
  have d1 := Z9.cell 1
  have d2 := Z9.cell 2
  have d3 := Z9.cell 3
  simp only [List.getElem?_cons_zero, List.getElem?_cons_succ] at d0 d1 d2 d3
  clear Z9
  refine bodyPost_ret (v := .tuple #[.agg #[.int .i64 0, .int .i64 0, .int .i64 0, .slice none 0 0], .int .i64 2]) (by simp [results, Try.results20, go_sem, d0, d1, d2, d3]) rfl ?_
  rw [HB.out.1, HB.out.2]
  exact ⟨none, 0, 0, [], rfl, noPln_at _, B9⟩
 have d0 : decide (z < 0) = false := decide_eq_false hz0
 by_cases hz1 : 10000 < z
 ·have d1 : decide (10000 < z) = true := decide_eq_true hz1
  have HB : Hid (runErr t p z = 2 ∧ runPl t p z = noPln) := HBAD.out (by omega)
  obtain ⟨z0, z1, z2, z3, zl⟩ := RZ1.out.cells4
  have zf0 := RZ1.out.frozen 0
  have zf1 := RZ1.out.frozen 1
  have zf2 := RZ1.out.frozen 2
  have zf3 := RZ1.out.frozen 3
  go_wp2_with fail
  have Z9 : Row (World.setCell (World.setCell (World.setCell (World.setCell w2 ⟨(w.heap.size + 1 + 1), 0, none⟩ (.int .i64 0)) ⟨(w.heap.size + 1 + 1), 1, none⟩ (.int .i64 0)) ⟨(w.heap.size + 1 + 1), 2, none⟩ (.int .i64 0)) ⟨(w.heap.size + 1 + 1), 3, none⟩ (.slice none 0 0)) (w.heap.size + 1 + 1) 42 [.int .i64 0, .int .i64 0, .int .i64 0, .slice none 0 0] := (Row.set (Row.set (Row.set (Row.set RZ1.out 0 (.int .i64 0)) 1 (.int .i64 0)) 2 (.int .i64 0)) 3 (.slice none 0 0))
  have B9 : Below w.heap.size w (World.setCell (World.setCell (World.setCell (World.setCell w2 ⟨(w.heap.size + 1 + 1), 0, none⟩ (.int .i64 0)) ⟨(w.heap.size + 1 + 1), 1, none⟩ (.int .i64 0)) ⟨(w.heap.size + 1 + 1), 2, none⟩ (.int .i64 0)) ⟨(w.heap.size + 1 + 1), 3, none⟩ (.slice none 0 0)) := (Below.setCell (Below.setCell (Below.setCell (Below.setCell BW1.out (p := ⟨(w.heap.size + 1 + 1), 0, none⟩) (by show w.heap.size ≤ w.heap.size + 1 + 1; omega) (.int .i64 0)) (p := ⟨(w.heap.size + 1 + 1), 1, none⟩) (by show w.heap.size ≤ w.heap.size + 1 + 1; omega) (.int .i64 0)) (p := ⟨(w.heap.size + 1 + 1), 2, none⟩) (by show w.heap.size ≤ w.heap.size + 1 + 1; omega) (.int .i64 0)) (p := ⟨(w.heap.size + 1 + 1), 3, none⟩) (by show w.heap.size ≤ w.heap.size + 1 + 1; omega) (.slice none 0 0))
  have d0 := Z9.cell 0
  have d1 := Z9.cell 1
  have d2 := Z9.cell 2
  have d3 := Z9.cell 3
  simp only [List.getElem?_cons_zero, List.getElem?_cons_succ] at d0 d1 d2 d3
  clear Z9
  refine bodyPost_ret (v := .tuple #[.agg #[.int .i64 0, .int .i64 0, .int .i64 0, .slice none 0 0], .int .i64 2]) (by simp [results, Try.results20, go_sem, d0, d1, d2, d3]) rfl ?_
  rw [HB.out.1, HB.out.2]
  exact ⟨none, 0, 0, [], rfl, noPln_at _, B9⟩
 have d1 : decide (10000 < z) = false := decide_eq_false hz1
 clear HBAD
 obtain ⟨N, rfl⟩ : ∃ N : Nat, z = (N : Int) := ⟨z.toNat, by omega⟩
 have HOK : Hid (OkTP t p) := check_ok HRT.out H4.out (HCE.out ())
 have HRS : Hid (runErr t p (N : Int) = 0 ∧ runPl t p (N : Int) = genPl t p N) := (by
  have h1 : runErr t p (N : Int) = 0 := by unfold runErr; rw [if_pos (HCE.out ()), if_pos (by omega)]
  exact ⟨h1, by unfold runPl; rw [if_pos h1, Int.toNat_natCast]⟩)
 have HSH : Hid (∀ k, (genPl t p k).w = p.w ∧ (genPl t p k).h = p.h ∧ (genPl t p k).edge = p.edge ∧ (genPl t p k).words.length = n) := fun k => by
  obtain ⟨x1, x2, x3, x4⟩ := gen_shape t p k
  exact ⟨x1, x2, x3, by rw [x4]; exact HWL.out⟩
 have SP1 : Hid (PSep w2 (genPl t p 0) A n sm w.heap.size (w.heap.size + 3)) := (HP.out.sep _).up BW1.out
 have HTT : Hid (∀ W, Below w.heap.size w W → TAt W t HA NA hn nn sl) := fun W h => HT.out.up h
 go_wp2_with fail
 go_loopg [10] N (fun gg s10 wr => ∃ (k : Nat) (KA : Option Addr) (kc : Nat) (ks : List Sl), k ≤ N ∧ N - k ≤ gg ∧ s10 = .int .i64 k ∧ Aside (Below w.heap.size w wr) ∧ Aside (Row wr w.heap.size 25 [.int .i64 t.states, .slice HA hn hc, .slice NA nn nc]) ∧ Aside (Row wr (w.heap.size + 1) 42 [.int .i64 p.w, .int .i64 p.h, .int .i64 p.edge, .slice KA n kc]) ∧ Aside (Row wr (w.heap.size + 1 + 1) 42 [.int .i64 0, .int .i64 0, .int .i64 0, .slice none 0 0]) ∧ Aside (PSep wr (genPl t p k) KA n ks w.heap.size (w.heap.size + 3)))
 case atStart => exact ⟨0, A, c, sm, Nat.zero_le _, by omega, rfl, BW1.out, RT1.out, RP1.out, RZ1.out, SP1.out⟩
 case round =>
  clear BW1 RT1 RP1 RZ1 SP1 hs1 HP
  obtain ⟨k, KA, kc, ks, hk, hgg, rfl, BW, RT, RP, RZ, SP⟩ := hrel
  have hsr : w.heap.size + 1 + 1 < wr.heap.size := RZ.out.lt
  by_cases hlt : k < N
  ·have hlz : (k : Int) < (N : Int) := by omega
   have RTr : Hid (Row wr w.heap.size 25 [.int .i64 t.states, .slice HA hn hc, .slice NA nn nc]) := RT.out
   have RPr : Hid (Row wr (w.heap.size + 1) 42 [.int .i64 p.w, .int .i64 p.h, .int .i64 p.edge, .slice KA n kc]) := RP.out
   have RZr : Hid (Row wr (w.heap.size + 1 + 1) 42 [.int .i64 0, .int .i64 0, .int .i64 0, .slice none 0 0]) := RZ.out
   have tR : Hid (Row wr (w.heap.size) 25 [.int .i64 t.states, .slice HA hn hc, .slice NA nn nc]) := RTr.out
   obtain ⟨t0, t1, t2, tl⟩ := tR.out.cells3
   clear tR
   have kR : Hid (Row wr ((w.heap.size + 1)) 42 [.int .i64 p.w, .int .i64 p.h, .int .i64 p.edge, .slice KA n kc]) := RPr.out
   obtain ⟨k0, k1, k2, k3, kl⟩ := kR.out.cells4
   clear kR
   go_wp2_with fail
   have HC := rStep_any t (genPl t p k) HA NA KA hn hc nn nc n kc sl ks wr (HTT.out _ BW.out) SP.out.pat HRT.out H4.out
   have HS0 : Hid (∀ _ : Unit, checkPl t (genPl t p k) = 0 ∧ stepPl t (genPl t p k) = genPl t p (k + 1)) := fun _ => by
    have h1 := ok_check (HOK.out.gen k)
    exact ⟨h1, by unfold stepPl; rw [if_pos h1]; rfl⟩
   rw [(HS0.out ()).1, (HS0.out ()).2, (HSH.out k).1, (HSH.out k).2.1, (HSH.out k).2.2.1] at HC
   unfold PlPostA at HC
   rw [(HSH.out (k + 1)).1, (HSH.out (k + 1)).2.1, (HSH.out (k + 1)).2.2.1] at HC
   refine HC.mono ?_
   clear HC
   rintro e w3 ⟨QA, qn, qc, qs, rfl, hs, hat, hb⟩
   obtain rfl : n = qn := by rw [← hat.wl]; exact ((HSH.out (k + 1)).2.2.2).symm
   have HQ : Hid (PSep w3 (genPl t p (k + 1)) QA n qs w.heap.size (w.heap.size + 3)) := hs _ _ (by omega)
   clear hs hat
   have B_wr : Hid (Below wr.heap.size wr w3) := hb
   clear t0 t1 t2 tl k0 k1 k2 k3 kl
   clear hb
   have RT3 : Hid (Row w3 w.heap.size 25 [.int .i64 t.states, .slice HA hn hc, .slice NA nn nc]) := (rowCells RTr.out B_wr.out)
   have RP3 : Hid (Row w3 (w.heap.size + 1) 42 [.int .i64 p.w, .int .i64 p.h, .int .i64 p.edge, .slice KA n kc]) := (rowCells RPr.out B_wr.out)
   have RZ3 : Hid (Row w3 (w.heap.size + 1 + 1) 42 [.int .i64 0, .int .i64 0, .int .i64 0, .slice none 0 0]) := (rowCells RZr.out B_wr.out)
   have BW3 : Hid (Below w.heap.size w w3) := below_on2 BW.out B_wr.out
   obtain ⟨k0, k1, k2, k3, kl⟩ := RP3.out.cells4
   have kf0 := RP3.out.frozen 0
   have kf1 := RP3.out.frozen 1
   have kf2 := RP3.out.frozen 2
   have kf3 := RP3.out.frozen 3
   go_wp2_with fail
   go_roundg (N - (k + 1))
   case measure => omega
   case rel =>
    exact ⟨k + 1, QA, qc, qs, by omega, by omega, by go_num, (Below.setCell (Below.setCell (Below.setCell (Below.setCell BW3.out (p := ⟨(w.heap.size + 1), 0, none⟩) (by show w.heap.size ≤ w.heap.size + 1; omega) (.int .i64 p.w)) (p := ⟨(w.heap.size + 1), 1, none⟩) (by show w.heap.size ≤ w.heap.size + 1; omega) (.int .i64 p.h)) (p := ⟨(w.heap.size + 1), 2, none⟩) (by show w.heap.size ≤ w.heap.size + 1; omega) (.int .i64 p.edge)) (p := ⟨(w.heap.size + 1), 3, none⟩) (by show w.heap.size ≤ w.heap.size + 1; omega) (.slice QA n qc)), (Row.far (Row.far (Row.far (Row.far RT3.out (p := ⟨(w.heap.size + 1), 0, none⟩) (by show w.heap.size ≠ w.heap.size + 1; omega) (.int .i64 p.w)) (p := ⟨(w.heap.size + 1), 1, none⟩) (by show w.heap.size ≠ w.heap.size + 1; omega) (.int .i64 p.h)) (p := ⟨(w.heap.size + 1), 2, none⟩) (by show w.heap.size ≠ w.heap.size + 1; omega) (.int .i64 p.edge)) (p := ⟨(w.heap.size + 1), 3, none⟩) (by show w.heap.size ≠ w.heap.size + 1; omega) (.slice QA n qc)), (Row.set (Row.set (Row.set (Row.set RP3.out 0 (.int .i64 p.w)) 1 (.int .i64 p.h)) 2 (.int .i64 p.edge)) 3 (.slice QA n qc)), (Row.far (Row.far (Row.far (Row.far RZ3.out (p := ⟨(w.heap.size + 1), 0, none⟩) (by show w.heap.size + 1 + 1 ≠ w.heap.size + 1; omega) (.int .i64 p.w)) (p := ⟨(w.heap.size + 1), 1, none⟩) (by show w.heap.size + 1 + 1 ≠ w.heap.size + 1; omega) (.int .i64 p.h)) (p := ⟨(w.heap.size + 1), 2, none⟩) (by show w.heap.size + 1 + 1 ≠ w.heap.size + 1; omega) (.int .i64 p.edge)) (p := ⟨(w.heap.size + 1), 3, none⟩) (by show w.heap.size + 1 + 1 ≠ w.heap.size + 1; omega) (.slice QA n qc)), (PSep.far (PSep.far (PSep.far (PSep.far HQ.out (q := ⟨(w.heap.size + 1), 0, none⟩) (by show w.heap.size ≤ w.heap.size + 1; omega) (by show w.heap.size + 1 < w.heap.size + 3; omega) (.int .i64 p.w)) (q := ⟨(w.heap.size + 1), 1, none⟩) (by show w.heap.size ≤ w.heap.size + 1; omega) (by show w.heap.size + 1 < w.heap.size + 3; omega) (.int .i64 p.h)) (q := ⟨(w.heap.size + 1), 2, none⟩) (by show w.heap.size ≤ w.heap.size + 1; omega) (by show w.heap.size + 1 < w.heap.size + 3; omega) (.int .i64 p.edge)) (q := ⟨(w.heap.size + 1), 3, none⟩) (by show w.heap.size ≤ w.heap.size + 1; omega) (by show w.heap.size + 1 < w.heap.size + 3; omega) (.slice QA n qc))⟩
  ·have hlz : ¬ (k : Int) < (N : Int) := by omega
   obtain rfl : N = k := by omega
   have RPr : Hid (Row wr (w.heap.size + 1) 42 [.int .i64 p.w, .int .i64 p.h, .int .i64 p.edge, .slice KA n kc]) := RP.out
   have RZr : Hid (Row wr (w.heap.size + 1 + 1) 42 [.int .i64 0, .int .i64 0, .int .i64 0, .slice none 0 0]) := RZ.out
   have BWr : Hid (Below w.heap.size w wr) := BW.out
   have SPr : Hid (PSep wr (genPl t p N) KA n ks w.heap.size (w.heap.size + 3)) := SP.out
   clear RP RZ RT BW SP hgg hlz hlt hk
   obtain ⟨k0, k1, k2, k3, kl⟩ := RPr.out.cells4
   obtain ⟨z0, z1, z2, z3, zl⟩ := RZr.out.cells4
   have zf0 := RZr.out.frozen 0
   have zf1 := RZr.out.frozen 1
   have zf2 := RZr.out.frozen 2
   have zf3 := RZr.out.frozen 3
   go_wp2_with fail
   have Z9 : Row (World.setCell (World.setCell (World.setCell (World.setCell wr ⟨(w.heap.size + 1 + 1), 0, none⟩ (.int .i64 p.w)) ⟨(w.heap.size + 1 + 1), 1, none⟩ (.int .i64 p.h)) ⟨(w.heap.size + 1 + 1), 2, none⟩ (.int .i64 p.edge)) ⟨(w.heap.size + 1 + 1), 3, none⟩ (.slice KA n kc)) (w.heap.size + 1 + 1) 42 [.int .i64 p.w, .int .i64 p.h, .int .i64 p.edge, .slice KA n kc] := (Row.set (Row.set (Row.set (Row.set RZr.out 0 (.int .i64 p.w)) 1 (.int .i64 p.h)) 2 (.int .i64 p.edge)) 3 (.slice KA n kc))
   have B9 : Below w.heap.size w (World.setCell (World.setCell (World.setCell (World.setCell wr ⟨(w.heap.size + 1 + 1), 0, none⟩ (.int .i64 p.w)) ⟨(w.heap.size + 1 + 1), 1, none⟩ (.int .i64 p.h)) ⟨(w.heap.size + 1 + 1), 2, none⟩ (.int .i64 p.edge)) ⟨(w.heap.size + 1 + 1), 3, none⟩ (.slice KA n kc)) := (Below.setCell (Below.setCell (Below.setCell (Below.setCell BWr.out (p := ⟨(w.heap.size + 1 + 1), 0, none⟩) (by show w.heap.size ≤ w.heap.size + 1 + 1; omega) (.int .i64 p.w)) (p := ⟨(w.heap.size + 1 + 1), 1, none⟩) (by show w.heap.size ≤ w.heap.size + 1 + 1; omega) (.int .i64 p.h)) (p := ⟨(w.heap.size + 1 + 1), 2, none⟩) (by show w.heap.size ≤ w.heap.size + 1 + 1; omega) (.int .i64 p.edge)) (p := ⟨(w.heap.size + 1 + 1), 3, none⟩) (by show w.heap.size ≤ w.heap.size + 1 + 1; omega) (.slice KA n kc))
   have d0 := Z9.cell 0
   have d1 := Z9.cell 1
   have d2 := Z9.cell 2
   have d3 := Z9.cell 3
   simp only [List.getElem?_cons_zero, List.getElem?_cons_succ] at d0 d1 d2 d3
   clear Z9
   refine bodyPost_ret (v := .tuple #[.agg #[.int .i64 p.w, .int .i64 p.h, .int .i64 p.edge, .slice KA n kc], .int .i64 0]) (by simp [results, Try.results20, go_sem, d0, d1, d2, d3]) rfl ?_
   rw [HRS.out.1, HRS.out.2]
   refine ⟨KA, n, kc, ks, ?_, (PSep.far (PSep.far (PSep.far (PSep.far SPr.out (q := ⟨(w.heap.size + 1 + 1), 0, none⟩) (by show w.heap.size ≤ w.heap.size + 1 + 1; omega) (by show w.heap.size + 1 + 1 < w.heap.size + 3; omega) (.int .i64 p.w)) (q := ⟨(w.heap.size + 1 + 1), 1, none⟩) (by show w.heap.size ≤ w.heap.size + 1 + 1; omega) (by show w.heap.size + 1 + 1 < w.heap.size + 3; omega) (.int .i64 p.h)) (q := ⟨(w.heap.size + 1 + 1), 2, none⟩) (by show w.heap.size ≤ w.heap.size + 1 + 1; omega) (by show w.heap.size + 1 + 1 < w.heap.size + 3; omega) (.int .i64 p.edge)) (q := ⟨(w.heap.size + 1 + 1), 3, none⟩) (by show w.heap.size ≤ w.heap.size + 1 + 1; omega) (by show w.heap.size + 1 + 1 < w.heap.size + 3; omega) (.slice KA n kc)).pat, B9⟩
   rw [(HSH.out N).1, (HSH.out N).2.1, (HSH.out N).2.2.1]
end Go.Proofs.Ytiemhbogbaamlaa

/-
 A part.
-/
namespace Go.Proofs.Ytiemhbogbaamlaa
open Go.RowKit
set_option linter.unusedSimpArgs false
set_option linter.unusedVariables false
def BoolPost (P : Prop) (w : World) (e : Ending) (w' : World) : Prop := ∃ q : Bool, e = .returned (.bool q) ∧ (q = true → P) ∧ Below w.heap.size w w'
set_option maxRecDepth 100000 in
set_option maxHeartbeats 4000000 in
theorem few_any (p : Pln) (A : Option Addr) (n c : Nat) (sl : List Sl) (w : World) (h : PAt w p A n sl) :
 Calls Try.prog 21 #[.agg #[.int .i64 p.w, .int .i64 p.h, .int .i64 p.edge, .slice A n c]] w (BoolPost True w) := by
 have HP : Hid (PAt w p A n sl) := h
 have HWL : Hid (p.words.length = n) := h.wl
 have hn63 := h.n63
 unfold maxLen at hn63
 clear h
 go_enter Try.func21, Try.ntmps21
 go_upto_region 1 with fail
 have RP : Hid (Row (World.alloc w (.cells #[.int .i64 p.w, .int .i64 p.h, .int .i64 p.edge, .slice A n c] 42)) (w.heap.size) 42 [.int .i64 p.w, .int .i64 p.h, .int .i64 p.edge, .slice A n c]) := by
  have h0 := Row.new w 42 [.int .i64 p.w, .int .i64 p.h, .int .i64 p.edge, .slice A n c]
  try simp only [World.size_alloc] at h0
  exact h0
 have hgr9 : Below w.heap.size w (World.alloc w (.cells #[.int .i64 p.w, .int .i64 p.h, .int .i64 p.edge, .slice A n c] 42)) := by go_grown
 have B_w : Hid (Below w.heap.size w (World.alloc w (.cells #[.int .i64 p.w, .int .i64 p.h, .int .i64 p.edge, .slice A n c] 42))) := hgr9
 clear hgr9
 revert RP B_w
 generalize (World.alloc w (.cells #[.int .i64 p.w, .int .i64 p.h, .int .i64 p.edge, .slice A n c] 42)) = wa
 intro RP B_w
 have HPA : Hid (PAt wa p A n sl) := (HP.out.up B_w.out)
 have kR : Hid (Row wa (w.heap.size) 42 [.int .i64 p.w, .int .i64 p.h, .int .i64 p.edge, .slice A n c]) := RP.out
 obtain ⟨k0, k1, k2, k3, kl⟩ := kR.out.cells4
 clear kR
 go_wp2_with fail
 go_loopg [3, 7] n (fun gg s3 s7 wr => ∃ k : Nat, k ≤ n ∧ n - k ≤ gg ∧ s7 = .int .i64 k ∧ wr = wa)
 case atStart => exact ⟨0, Nat.zero_le _, by omega, rfl, rfl⟩
 case round =>
  obtain ⟨k, hk, hgg, rfl, rfl⟩ := hrel
  by_cases hlt : k < n
  ·have hlz : (k : Int) < (n : Int) := by omega
   obtain ⟨ad, rfl, hab, c0, -, -, -⟩ := HPA.out.row hlt
   have habz : (ad.add k).block < wr.heap.size := by rw [add_block]; exact hab
   generalize hsk : sl.getD k default = x at c0
   obtain ⟨xa, xl, xc⟩ := x
   have c0 : wr.cell? (ad.add k) = some (.slice xa xl xc) := c0
   by_cases h1 : (1000 : Int) < (xl : Int)
   ·have d1 : decide ((1000 : Int) < (xl : Int)) = true := decide_eq_true h1
    go_wp2_with fail
    go_ret
    exact ⟨false, rfl, fun _ => trivial, B_w.out⟩
   ·have d1 : decide ((1000 : Int) < (xl : Int)) = false := decide_eq_false h1
    go_wp2_with fail
    go_roundg (n - (k + 1))
    case measure => omega
    case rel => exact ⟨k + 1, by omega, by omega, by go_num, rfl⟩
  ·have hlz : ¬ (k : Int) < (n : Int) := by omega
   obtain rfl : n = k := by omega
   go_wp2_with fail
   go_ret
   exact ⟨_, rfl, fun _ => trivial, B_w.out⟩
set_option maxRecDepth 100000 in
set_option maxHeartbeats 4000000 in
theorem small_any (t : Tre) (p : Pln) (HA NA A : Option Addr) (hn hc nn nc n c : Nat) (sl sm : List Sl) (w : World) (ht : TAt w t HA NA hn nn sl) (hp : PAt w p A n sm) :
 Calls Try.prog 15 #[.agg #[.int .i64 t.states, .slice HA hn hc, .slice NA nn nc], .agg #[.int .i64 p.w, .int .i64 p.h, .int .i64 p.edge, .slice A n c]] w (BoolPost (fewT t = true) w) := by
 have HT : Hid (TAt w t HA NA hn nn sl) := ht
 have HP : Hid (PAt w p A n sm) := hp
 clear ht hp
 go_enter Try.func15, Try.ntmps15
 go_upto_region 1 with fail
 have RT : Hid (Row (World.alloc (World.alloc w (.cells #[.int .i64 t.states, .slice HA hn hc, .slice NA nn nc] 25)) (.cells #[.int .i64 p.w, .int .i64 p.h, .int .i64 p.edge, .slice A n c] 42)) (w.heap.size) 25 [.int .i64 t.states, .slice HA hn hc, .slice NA nn nc]) := by
  have h0 := Row.new w 25 [.int .i64 t.states, .slice HA hn hc, .slice NA nn nc]
  try simp only [World.size_alloc] at h0
  exact (h0.alloc _)
 have RP : Hid (Row (World.alloc (World.alloc w (.cells #[.int .i64 t.states, .slice HA hn hc, .slice NA nn nc] 25)) (.cells #[.int .i64 p.w, .int .i64 p.h, .int .i64 p.edge, .slice A n c] 42)) (w.heap.size + 1) 42 [.int .i64 p.w, .int .i64 p.h, .int .i64 p.edge, .slice A n c]) := by
  have h0 := Row.new (World.alloc w (.cells #[.int .i64 t.states, .slice HA hn hc, .slice NA nn nc] 25)) 42 [.int .i64 p.w, .int .i64 p.h, .int .i64 p.edge, .slice A n c]
  try simp only [World.size_alloc] at h0
  exact h0
 have hgr9 : Below w.heap.size w (World.alloc (World.alloc w (.cells #[.int .i64 t.states, .slice HA hn hc, .slice NA nn nc] 25)) (.cells #[.int .i64 p.w, .int .i64 p.h, .int .i64 p.edge, .slice A n c] 42)) := by go_grown
 have B_w : Hid (Below w.heap.size w (World.alloc (World.alloc w (.cells #[.int .i64 t.states, .slice HA hn hc, .slice NA nn nc] 25)) (.cells #[.int .i64 p.w, .int .i64 p.h, .int .i64 p.edge, .slice A n c] 42))) := hgr9
 clear hgr9
 revert RT RP B_w
 generalize (World.alloc (World.alloc w (.cells #[.int .i64 t.states, .slice HA hn hc, .slice NA nn nc] 25)) (.cells #[.int .i64 p.w, .int .i64 p.h, .int .i64 p.edge, .slice A n c] 42)) = wa
 intro RT RP B_w
 have kR : Hid (Row wa (w.heap.size) 25 [.int .i64 t.states, .slice HA hn hc, .slice NA nn nc]) := RT.out
 obtain ⟨k0, k1, k2, kl⟩ := kR.out.cells3
 clear kR
 go_wp2_with fail
 have HC := fewT_any t HA NA hn hc nn nc sl wa (HT.out.up B_w.out)
 obtain ⟨q, hq⟩ : ∃ q, fewT t = q := ⟨_, rfl⟩
 have HQ : Hid (∀ _ : Unit, fewT t = q) := fun _ => hq
 rw [hq] at HC
 clear hq
 refine HC.mono ?_
 clear HC
 rintro e w1 ⟨rfl, hb⟩
 have B_w : Hid (Below w.heap.size w w1) := below_on2 B_w.out hb
 have B_wa : Hid (Below wa.heap.size wa w1) := hb
 clear k0 k1 k2 kl
 clear hb
 cases q
 ·go_wp2_with fail
  go_ret
  exact ⟨false, rfl, fun h => absurd h (by decide), B_w.out⟩
 have jR : Hid (Row w1 (w.heap.size + 1) 42 [.int .i64 p.w, .int .i64 p.h, .int .i64 p.edge, .slice A n c]) := (rowCells RP.out B_wa.out)
 obtain ⟨j0, j1, j2, j3, jl⟩ := jR.out.cells4
 clear jR
 go_wp2_with fail
 refine (few_any p A n c sm w1 (HP.out.up B_w.out)).mono ?_
 rintro e w2 ⟨q2, rfl, -, hb⟩
 have B_w : Hid (Below w.heap.size w w2) := below_on2 B_w.out hb
 have B_wa : Hid (Below wa.heap.size wa w2) := below_on2 B_wa.out hb
 have B_w1 : Hid (Below w1.heap.size w1 w2) := hb
 clear j0 j1 j2 j3 jl
 clear hb
 cases q2
 ·go_wp2_with fail
  go_ret
  exact ⟨false, rfl, fun h => absurd h (by decide), B_w.out⟩
 have jR : Hid (Row w2 (w.heap.size + 1) 42 [.int .i64 p.w, .int .i64 p.h, .int .i64 p.edge, .slice A n c]) := (rowCells RP.out B_wa.out)
 obtain ⟨j0, j1, j2, j3, jl⟩ := jR.out.cells4
 clear jR
 go_wp2_with fail
 refine (rPlRight_any p A n c sm w2 (HP.out.up B_w.out)).mono ?_
 rintro e w3 ⟨rfl, hb⟩
 have B_w : Hid (Below w.heap.size w w3) := below_on2 B_w.out hb
 have B_wa : Hid (Below wa.heap.size wa w3) := below_on2 B_wa.out hb
 have B_w1 : Hid (Below w1.heap.size w1 w3) := below_on2 B_w1.out hb
 have B_w2 : Hid (Below w2.heap.size w2 w3) := hb
 clear j0 j1 j2 j3 jl
 clear hb
 generalize rightPl p = q3
 have jR : Hid (Row w3 (w.heap.size + 1) 42 [.int .i64 p.w, .int .i64 p.h, .int .i64 p.edge, .slice A n c]) := (rowCells RP.out B_wa.out)
 obtain ⟨j0, j1, j2, j3, jl⟩ := jR.out.cells4
 clear jR
 cases q3
 ·go_wp2_with fail
  go_ret
  exact ⟨true, rfl, fun _ => HQ.out (), B_w.out⟩
 ·go_wp2_with fail
  go_ret
  exact ⟨_, rfl, fun _ => HQ.out (), B_w.out⟩
end Go.Proofs.Ytiemhbogbaamlaa
