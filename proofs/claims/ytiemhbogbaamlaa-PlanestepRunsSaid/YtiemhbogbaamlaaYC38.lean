/-
 A part.
-/
import Derived.Test.YtiemhbogbaamlaaYC35
import Derived.Test.YtiemhbogbaamlaaYC36
import Derived.Test.YtiemhbogbaamlaaYC27
import Derived.Test.YtiemhbogbaamlaaYC37
import Derived.BigQuiet
namespace Go.Proofs.Ytiemhbogbaamlaa
open Go.RowKit
set_option linter.unusedSimpArgs false
set_option linter.unusedVariables false
def stepPl (t : Tre) (p : Pln) : Pln := if checkPl t p = 0 then nextPl t p else noPln
theorem step_bad {t : Tre} {p : Pln} {k : Int} (h : checkPl t p = k) (h0 : k ≠ 0) : checkPl t p = k ∧ stepPl t p = noPln := ⟨h, by unfold stepPl; rw [if_neg (by rw [h]; exact h0)]⟩
set_option maxRecDepth 100000 in
set_option maxHeartbeats 8000000 in
theorem rStep_any (t : Tre) (p : Pln) (HA NA A : Option Addr) (hn hc nn nc n c : Nat) (sl sm : List Sl) (w : World) (ht : TAt w t HA NA hn nn sl) (hp : PAt w p A n sm) (hr : rightT t = true) (h400 : t.nodes.length ≤ 400) :
 Calls Try.prog 17 #[.agg #[.int .i64 t.states, .slice HA hn hc, .slice NA nn nc], .agg #[.int .i64 p.w, .int .i64 p.h, .int .i64 p.edge, .slice A n c]] w (PlPostA (fun lo hi => hi ≤ w.heap.size) (stepPl t p) (checkPl t p) w) := by
 have HT : Hid (TAt w t HA NA hn nn sl) := ht
 have HP : Hid (PAt w p A n sm) := hp
 have HWL : Hid (p.words.length = n) := hp.wl
 have HRT : Hid (rightT t = true) := hr
 have H4 : Hid (t.nodes.length ≤ 400) := h400
 have hsb := states_bd hr
 have hn63 := hp.n63
 unfold maxLen at hn63
 obtain ⟨nb, hnb⟩ : ∃ nb, bitsF t.states = nb := ⟨_, rfl⟩
 have HNB : Hid (∀ _ : Unit, bitsF t.states = nb) := fun _ => hnb
 clear ht hp hr h400 hnb
 go_enter Try.func17, Try.ntmps17
 go_upto_region 1 with fail
 have RT : Hid (Row (World.alloc (World.alloc (World.alloc w (.cells #[.int .i64 t.states, .slice HA hn hc, .slice NA nn nc] 25)) (.cells #[.int .i64 p.w, .int .i64 p.h, .int .i64 p.edge, .slice A n c] 42)) (.cells #[.int .i64 0, .int .i64 0, .int .i64 0, .slice none 0 0] 42)) (w.heap.size) 25 [.int .i64 t.states, .slice HA hn hc, .slice NA nn nc]) := by
  have h0 := Row.new w 25 [.int .i64 t.states, .slice HA hn hc, .slice NA nn nc]
  try simp only [World.size_alloc] at h0
  exact ((h0.alloc _).alloc _)
 have RP : Hid (Row (World.alloc (World.alloc (World.alloc w (.cells #[.int .i64 t.states, .slice HA hn hc, .slice NA nn nc] 25)) (.cells #[.int .i64 p.w, .int .i64 p.h, .int .i64 p.edge, .slice A n c] 42)) (.cells #[.int .i64 0, .int .i64 0, .int .i64 0, .slice none 0 0] 42)) (w.heap.size + 1) 42 [.int .i64 p.w, .int .i64 p.h, .int .i64 p.edge, .slice A n c]) := by
  have h0 := Row.new (World.alloc w (.cells #[.int .i64 t.states, .slice HA hn hc, .slice NA nn nc] 25)) 42 [.int .i64 p.w, .int .i64 p.h, .int .i64 p.edge, .slice A n c]
  try simp only [World.size_alloc] at h0
  exact (h0.alloc _)
 have RZ : Hid (Row (World.alloc (World.alloc (World.alloc w (.cells #[.int .i64 t.states, .slice HA hn hc, .slice NA nn nc] 25)) (.cells #[.int .i64 p.w, .int .i64 p.h, .int .i64 p.edge, .slice A n c] 42)) (.cells #[.int .i64 0, .int .i64 0, .int .i64 0, .slice none 0 0] 42)) (w.heap.size + 1 + 1) 42 [.int .i64 0, .int .i64 0, .int .i64 0, .slice none 0 0]) := by
  have h0 := Row.new (World.alloc (World.alloc w (.cells #[.int .i64 t.states, .slice HA hn hc, .slice NA nn nc] 25)) (.cells #[.int .i64 p.w, .int .i64 p.h, .int .i64 p.edge, .slice A n c] 42)) 42 [.int .i64 0, .int .i64 0, .int .i64 0, .slice none 0 0]
  try simp only [World.size_alloc] at h0
  exact h0
 have hgr9 : Below w.heap.size w (World.alloc (World.alloc (World.alloc w (.cells #[.int .i64 t.states, .slice HA hn hc, .slice NA nn nc] 25)) (.cells #[.int .i64 p.w, .int .i64 p.h, .int .i64 p.edge, .slice A n c] 42)) (.cells #[.int .i64 0, .int .i64 0, .int .i64 0, .slice none 0 0] 42)) := by go_grown
 have B_w : Hid (Below w.heap.size w (World.alloc (World.alloc (World.alloc w (.cells #[.int .i64 t.states, .slice HA hn hc, .slice NA nn nc] 25)) (.cells #[.int .i64 p.w, .int .i64 p.h, .int .i64 p.edge, .slice A n c] 42)) (.cells #[.int .i64 0, .int .i64 0, .int .i64 0, .slice none 0 0] 42))) := hgr9
 clear hgr9
 revert RT RP RZ B_w
 generalize (World.alloc (World.alloc (World.alloc w (.cells #[.int .i64 t.states, .slice HA hn hc, .slice NA nn nc] 25)) (.cells #[.int .i64 p.w, .int .i64 p.h, .int .i64 p.edge, .slice A n c] 42)) (.cells #[.int .i64 0, .int .i64 0, .int .i64 0, .slice none 0 0] 42)) = wa
 intro RT RP RZ B_w
 have kR : Hid (Row wa (w.heap.size) 25 [.int .i64 t.states, .slice HA hn hc, .slice NA nn nc]) := RT.out
 obtain ⟨k0, k1, k2, kl⟩ := kR.out.cells3
 clear kR
 have jR : Hid (Row wa (w.heap.size + 1) 42 [.int .i64 p.w, .int .i64 p.h, .int .i64 p.edge, .slice A n c]) := RP.out
 obtain ⟨j0, j1, j2, j3, jl⟩ := jR.out.cells4
 clear jR
 go_wp2_with fail
 have HC := rBits_any t.states wa
 rw [HNB.out ()] at HC
 refine HC.mono ?_
 clear HC
 rintro e w0 ⟨rfl, rfl⟩
 go_wp2_with fail
 have HC := rPlRight_any p A n c sm wa (HP.out.up B_w.out)
 obtain ⟨q, hq⟩ : ∃ q, rightPl p = q := ⟨_, rfl⟩
 have HQ : Hid (∀ _ : Unit, rightPl p = q) := fun _ => hq
 rw [hq] at HC
 clear hq
 refine HC.mono ?_
 clear HC
 rintro e w1 ⟨rfl, hb⟩
 have B_w : Hid (Below w.heap.size w w1) := below_on2 B_w.out hb
 have B_wa : Hid (Below wa.heap.size wa w1) := hb
 clear k0 k1 k2 kl j0 j1 j2 j3 jl
 clear hb
 have RZ1 : Hid (Row w1 (w.heap.size + 1 + 1) 42 [.int .i64 0, .int .i64 0, .int .i64 0, .slice none 0 0]) := (rowCells RZ.out B_wa.out)
 cases q
 ·have HCK : Hid (∀ _ : Unit, checkPl t p = 2 ∧ stepPl t p = noPln) := fun _ => step_bad (by unfold checkPl; rw [if_neg (fun h => by rw [HQ.out ()] at h; exact absurd h.1 (by decide))]) (by decide)
  obtain ⟨z0, z1, z2, z3, zl⟩ := RZ1.out.cells4
  have zf0 := RZ1.out.frozen 0
  have zf1 := RZ1.out.frozen 1
  have zf2 := RZ1.out.frozen 2
  have zf3 := RZ1.out.frozen 3
  go_wp2_with fail
  have Z9 : Row (World.setCell (World.setCell (World.setCell (World.setCell w1 ⟨(w.heap.size + 1 + 1), 0, none⟩ (.int .i64 0)) ⟨(w.heap.size + 1 + 1), 1, none⟩ (.int .i64 0)) ⟨(w.heap.size + 1 + 1), 2, none⟩ (.int .i64 0)) ⟨(w.heap.size + 1 + 1), 3, none⟩ (.slice none 0 0)) (w.heap.size + 1 + 1) 42 [.int .i64 0, .int .i64 0, .int .i64 0, .slice none 0 0] := (Row.set (Row.set (Row.set (Row.set RZ1.out 0 (.int .i64 0)) 1 (.int .i64 0)) 2 (.int .i64 0)) 3 (.slice none 0 0))
  have B9 : Below w.heap.size w (World.setCell (World.setCell (World.setCell (World.setCell w1 ⟨(w.heap.size + 1 + 1), 0, none⟩ (.int .i64 0)) ⟨(w.heap.size + 1 + 1), 1, none⟩ (.int .i64 0)) ⟨(w.heap.size + 1 + 1), 2, none⟩ (.int .i64 0)) ⟨(w.heap.size + 1 + 1), 3, none⟩ (.slice none 0 0)) := (Below.setCell (Below.setCell (Below.setCell (Below.setCell B_w.out (p := ⟨(w.heap.size + 1 + 1), 0, none⟩) (by show w.heap.size ≤ w.heap.size + 1 + 1; omega) (.int .i64 0)) (p := ⟨(w.heap.size + 1 + 1), 1, none⟩) (by show w.heap.size ≤ w.heap.size + 1 + 1; omega) (.int .i64 0)) (p := ⟨(w.heap.size + 1 + 1), 2, none⟩) (by show w.heap.size ≤ w.heap.size + 1 + 1; omega) (.int .i64 0)) (p := ⟨(w.heap.size + 1 + 1), 3, none⟩) (by show w.heap.size ≤ w.heap.size + 1 + 1; omega) (.slice none 0 0))
  have d0 := Z9.cell 0
  have d1 := Z9.cell 1
  have d2 := Z9.cell 2
  have d3 := Z9.cell 3
  simp only [List.getElem?_cons_zero, List.getElem?_cons_succ] at d0 d1 d2 d3
  clear Z9
  refine bodyPost_ret (v := .tuple #[.agg #[.int .i64 0, .int .i64 0, .int .i64 0, .slice none 0 0], .int .i64 2]) (by simp [results, Try.results17, go_sem, d0, d1, d2, d3]) rfl ?_
  rw [(HCK.out ()).1, (HCK.out ()).2]
  exact ⟨none, 0, 0, [], rfl, fun _ _ _ => noPln_sep _ _ _, noPln_at _, B9⟩
 have jR : Hid (Row w1 (w.heap.size + 1) 42 [.int .i64 p.w, .int .i64 p.h, .int .i64 p.edge, .slice A n c]) := (rowCells RP.out B_wa.out)
 obtain ⟨j0, j1, j2, j3, jl⟩ := jR.out.cells4
 clear jR
 by_cases hnn : n = nb
 rotate_left 1
 ·have HCK : Hid (∀ _ : Unit, checkPl t p = 2 ∧ stepPl t p = noPln) := fun _ => step_bad (by unfold checkPl; rw [if_neg (fun h => hnn (by rw [← HWL.out, h.2, HNB.out ()]))]) (by decide)
  have n1 : ((n : Int) != (nb : Int)) = true := by simp; omega
  obtain ⟨z0, z1, z2, z3, zl⟩ := RZ1.out.cells4
  have zf0 := RZ1.out.frozen 0
  have zf1 := RZ1.out.frozen 1
  have zf2 := RZ1.out.frozen 2
  have zf3 := RZ1.out.frozen 3
  go_wp2_with fail
  have Z9 : Row (World.setCell (World.setCell (World.setCell (World.setCell w1 ⟨(w.heap.size + 1 + 1), 0, none⟩ (.int .i64 0)) ⟨(w.heap.size + 1 + 1), 1, none⟩ (.int .i64 0)) ⟨(w.heap.size + 1 + 1), 2, none⟩ (.int .i64 0)) ⟨(w.heap.size + 1 + 1), 3, none⟩ (.slice none 0 0)) (w.heap.size + 1 + 1) 42 [.int .i64 0, .int .i64 0, .int .i64 0, .slice none 0 0] := (Row.set (Row.set (Row.set (Row.set RZ1.out 0 (.int .i64 0)) 1 (.int .i64 0)) 2 (.int .i64 0)) 3 (.slice none 0 0))
  have B9 : Below w.heap.size w (World.setCell (World.setCell (World.setCell (World.setCell w1 ⟨(w.heap.size + 1 + 1), 0, none⟩ (.int .i64 0)) ⟨(w.heap.size + 1 + 1), 1, none⟩ (.int .i64 0)) ⟨(w.heap.size + 1 + 1), 2, none⟩ (.int .i64 0)) ⟨(w.heap.size + 1 + 1), 3, none⟩ (.slice none 0 0)) := (Below.setCell (Below.setCell (Below.setCell (Below.setCell B_w.out (p := ⟨(w.heap.size + 1 + 1), 0, none⟩) (by show w.heap.size ≤ w.heap.size + 1 + 1; omega) (.int .i64 0)) (p := ⟨(w.heap.size + 1 + 1), 1, none⟩) (by show w.heap.size ≤ w.heap.size + 1 + 1; omega) (.int .i64 0)) (p := ⟨(w.heap.size + 1 + 1), 2, none⟩) (by show w.heap.size ≤ w.heap.size + 1 + 1; omega) (.int .i64 0)) (p := ⟨(w.heap.size + 1 + 1), 3, none⟩) (by show w.heap.size ≤ w.heap.size + 1 + 1; omega) (.slice none 0 0))
  have d0 := Z9.cell 0
  have d1 := Z9.cell 1
  have d2 := Z9.cell 2
  have d3 := Z9.cell 3
  simp only [List.getElem?_cons_zero, List.getElem?_cons_succ] at d0 d1 d2 d3
  clear Z9
  refine bodyPost_ret (v := .tuple #[.agg #[.int .i64 0, .int .i64 0, .int .i64 0, .slice none 0 0], .int .i64 2]) (by simp [results, Try.results17, go_sem, d0, d1, d2, d3]) rfl ?_
  rw [(HCK.out ()).1, (HCK.out ()).2]
  exact ⟨none, 0, 0, [], rfl, fun _ _ _ => noPln_sep _ _ _, noPln_at _, B9⟩
 subst hnn
 have n1 : ((n : Int) != (n : Int)) = false := by simp
 go_wp2_with fail
 have HC := rPlUnpack_any p A n c sm w1 (HP.out.up B_w.out)
 rw [show unpackR p = unpackG p by unfold unpackR; rw [if_pos (HQ.out ())], show unpackErr p = 0 by unfold unpackErr; rw [if_pos (HQ.out ())]] at HC
 unfold UPost at HC
 refine HC.mono ?_
 clear HC
 rintro e w2 ⟨GA, gn, gc, he, hg, hb⟩
 have he2 : e = .returned (.tuple #[.agg #[.int .i64 p.w, .int .i64 p.h, .int .i64 p.edge, .slice GA gn gc], .int .i64 0]) := he
 subst he2
 have HG : Hid (GAt w2 (unpackG p) GA gn) := hg
 have HGL : Hid ((cellsP p).length = gn) := hg.cl
 have hg63 := hg.c63
 unfold maxLen at hg63
 clear he hg
 have B_w : Hid (Below w.heap.size w w2) := below_on2 B_w.out hb
 have B_wa : Hid (Below wa.heap.size wa w2) := below_on2 B_wa.out hb
 have B_w1 : Hid (Below w1.heap.size w1 w2) := hb
 clear j0 j1 j2 j3 jl
 clear hb
 have HS2 : Hid (w.heap.size + 1 + 1 < w2.heap.size) := Nat.lt_of_lt_of_le RZ1.out.lt B_w1.out.size
 go_upto_region 5 with fail
 have RG : Hid (Row (World.alloc w2 (.cells #[.int .i64 p.w, .int .i64 p.h, .int .i64 p.edge, .slice GA gn gc] 54)) (w2.heap.size) 54 [.int .i64 p.w, .int .i64 p.h, .int .i64 p.edge, .slice GA gn gc]) := by
  have h0 := Row.new w2 54 [.int .i64 p.w, .int .i64 p.h, .int .i64 p.edge, .slice GA gn gc]
  try simp only [World.size_alloc] at h0
  exact h0
 have hgr9 : Below w2.heap.size w2 (World.alloc w2 (.cells #[.int .i64 p.w, .int .i64 p.h, .int .i64 p.edge, .slice GA gn gc] 54)) := by go_grown
 have B_w : Hid (Below w.heap.size w (World.alloc w2 (.cells #[.int .i64 p.w, .int .i64 p.h, .int .i64 p.edge, .slice GA gn gc] 54))) := below_on2 B_w.out hgr9
 have B_wa : Hid (Below wa.heap.size wa (World.alloc w2 (.cells #[.int .i64 p.w, .int .i64 p.h, .int .i64 p.edge, .slice GA gn gc] 54))) := below_on2 B_wa.out hgr9
 have B_w1 : Hid (Below w1.heap.size w1 (World.alloc w2 (.cells #[.int .i64 p.w, .int .i64 p.h, .int .i64 p.edge, .slice GA gn gc] 54))) := below_on2 B_w1.out hgr9
 have B_w2 : Hid (Below w2.heap.size w2 (World.alloc w2 (.cells #[.int .i64 p.w, .int .i64 p.h, .int .i64 p.edge, .slice GA gn gc] 54))) := hgr9
 clear hgr9
 revert RG B_w B_wa B_w1 B_w2
 generalize (World.alloc w2 (.cells #[.int .i64 p.w, .int .i64 p.h, .int .i64 p.edge, .slice GA gn gc] 54)) = w3
 intro RG B_w B_wa B_w1 B_w2
 go_wp2_with fail
 have HG3 : Hid (GAt w3 (unpackG p) GA gn) := (HG.out.up B_w2.out)
 have RT3 : Hid (Row w3 w.heap.size 25 [.int .i64 t.states, .slice HA hn hc, .slice NA nn nc]) := (rowCells RT.out B_wa.out)
 have RZ3 : Hid (Row w3 (w.heap.size + 1 + 1) 42 [.int .i64 0, .int .i64 0, .int .i64 0, .slice none 0 0]) := (rowCells RZ.out B_wa.out)
 have BW3 : Hid (Below w.heap.size w w3) := B_w
 have HT3 : Hid (TAt w3 t HA NA hn nn sl) := (HT.out.up B_w.out)
 have hs2 : Hid (w.heap.size + 1 + 1 < w2.heap.size) := HS2.out
 clear HG B_w B_wa B_w1 B_w2 RT RP RZ RZ1
 go_loopg [9] gn (fun gg s9 wr => ∃ k : Nat, k ≤ gn ∧ gn - k ≤ gg ∧ s9 = .int .i64 k ∧ Aside (Below w3.heap.size w3 wr) ∧ Aside (∀ j : Nat, j < k → ltStates t ((cellsP p).getD j 0) = true))
 case atStart => exact ⟨0, Nat.zero_le _, by omega, rfl, Below.refl _ _, fun j hj => absurd hj (Nat.not_lt_zero _)⟩
 case round =>
  obtain ⟨k, hk, hgg, rfl, BX, HAL⟩ := hrel
  have BWr : Hid (Below w.heap.size w wr) := below_on2 BW3.out BX.out
  have RGr : Hid (Row wr w2.heap.size 54 [.int .i64 p.w, .int .i64 p.h, .int .i64 p.edge, .slice GA gn gc]) := rowCells RG.out BX.out
  have RTr : Hid (Row wr w.heap.size 25 [.int .i64 t.states, .slice HA hn hc, .slice NA nn nc]) := rowCells RT3.out BX.out
  have RZr : Hid (Row wr (w.heap.size + 1 + 1) 42 [.int .i64 0, .int .i64 0, .int .i64 0, .slice none 0 0]) := rowCells RZ3.out BX.out
  obtain ⟨g0, g1, g2, g3, gl⟩ := RGr.out.cells4
  obtain ⟨k0, k1, k2, kl⟩ := RTr.out.cells3
  by_cases hlt : k < gn
  ·have hlz : (k : Int) < (gn : Int) := by omega
   obtain ⟨ad, rfl, hab, c0⟩ := (HG3.out.up BX.out).cells.int hlt
   have habz : (ad.add k).block < wr.heap.size := by rw [add_block]; exact hab
   generalize hy : (unpackG p).cells.getD k 0 = y at c0
   have HY : Hid ((cellsP p).getD k 0 = y) := hy
   clear hy
   go_wp2_with fail
   go_quiet (fail)
   have BNq : Hid (Below wr.heap.size wr (wr.drewN nq)) := below_drewN (Below.refl _ _) _
   have BWq : Hid (Below w.heap.size w (wr.drewN nq)) := below_on2 BWr.out BNq.out
   have BXq : Hid (Below w3.heap.size w3 (wr.drewN nq)) := below_on2 BX.out BNq.out
   have RZq : Hid (Row (wr.drewN nq) (w.heap.size + 1 + 1) 42 [.int .i64 0, .int .i64 0, .int .i64 0, .slice none 0 0]) := rowCells RZr.out BNq.out
   clear g0 g1 g2 g3 gl k0 k1 k2 kl c0
   revert BNq BWq BXq RZq
   generalize wr.drewN nq = wq
   intro BNq BWq BXq RZq
   by_cases h1 : t.states ≤ y
   ·have d1 : decide (t.states ≤ y) = true := decide_eq_true h1
    have HCK : Hid (∀ _ : Unit, checkPl t p = 10 ∧ stepPl t p = noPln) := fun _ => step_bad (by unfold checkPl; rw [if_pos ⟨HQ.out (), by rw [HWL.out, HNB.out ()]⟩, all_false_at _ _ k (by rw [HGL.out]; exact hlt) (by rw [HY.out]; unfold ltStates; rw [decide_eq_false]; omega)]; rfl) (by decide)
    obtain ⟨z0, z1, z2, z3, zl⟩ := RZq.out.cells4
    have zf0 := RZq.out.frozen 0
    have zf1 := RZq.out.frozen 1
    have zf2 := RZq.out.frozen 2
    have zf3 := RZq.out.frozen 3
    go_wp2_with fail
    have Z9 : Row (World.setCell (World.setCell (World.setCell (World.setCell wq ⟨(w.heap.size + 1 + 1), 0, none⟩ (.int .i64 0)) ⟨(w.heap.size + 1 + 1), 1, none⟩ (.int .i64 0)) ⟨(w.heap.size + 1 + 1), 2, none⟩ (.int .i64 0)) ⟨(w.heap.size + 1 + 1), 3, none⟩ (.slice none 0 0)) (w.heap.size + 1 + 1) 42 [.int .i64 0, .int .i64 0, .int .i64 0, .slice none 0 0] := (Row.set (Row.set (Row.set (Row.set RZq.out 0 (.int .i64 0)) 1 (.int .i64 0)) 2 (.int .i64 0)) 3 (.slice none 0 0))
    have B9 : Below w.heap.size w (World.setCell (World.setCell (World.setCell (World.setCell wq ⟨(w.heap.size + 1 + 1), 0, none⟩ (.int .i64 0)) ⟨(w.heap.size + 1 + 1), 1, none⟩ (.int .i64 0)) ⟨(w.heap.size + 1 + 1), 2, none⟩ (.int .i64 0)) ⟨(w.heap.size + 1 + 1), 3, none⟩ (.slice none 0 0)) := (Below.setCell (Below.setCell (Below.setCell (Below.setCell BWq.out (p := ⟨(w.heap.size + 1 + 1), 0, none⟩) (by show w.heap.size ≤ w.heap.size + 1 + 1; omega) (.int .i64 0)) (p := ⟨(w.heap.size + 1 + 1), 1, none⟩) (by show w.heap.size ≤ w.heap.size + 1 + 1; omega) (.int .i64 0)) (p := ⟨(w.heap.size + 1 + 1), 2, none⟩) (by show w.heap.size ≤ w.heap.size + 1 + 1; omega) (.int .i64 0)) (p := ⟨(w.heap.size + 1 + 1), 3, none⟩) (by show w.heap.size ≤ w.heap.size + 1 + 1; omega) (.slice none 0 0))
    have d0 := Z9.cell 0
    have d1 := Z9.cell 1
    have d2 := Z9.cell 2
    have d3 := Z9.cell 3
    simp only [List.getElem?_cons_zero, List.getElem?_cons_succ] at d0 d1 d2 d3
    clear Z9
    refine bodyPost_ret (v := .tuple #[.agg #[.int .i64 0, .int .i64 0, .int .i64 0, .slice none 0 0], .int .i64 10]) (by simp [results, Try.results17, go_sem, d0, d1, d2, d3]) rfl ?_
    rw [(HCK.out ()).1, (HCK.out ()).2]
    exact ⟨none, 0, 0, [], rfl, fun _ _ _ => noPln_sep _ _ _, noPln_at _, B9⟩
   ·have d1 : decide (t.states ≤ y) = false := decide_eq_false h1
    have HNX : Hid (∀ j : Nat, j < k + 1 → ltStates t ((cellsP p).getD j 0) = true) := fun j hj => by
     rcases Nat.lt_or_ge j k with h3 | h3
     ·exact HAL.out j h3
     ·obtain rfl : j = k := by omega
      rw [HY.out]; unfold ltStates; rw [decide_eq_true_eq]; omega
    go_wp2_with fail
    go_roundg (gn - (k + 1))
    case measure => omega
    case rel => exact ⟨k + 1, by omega, by omega, by go_num, BXq.out, HNX.out⟩
  ·have hlz : ¬ (k : Int) < (gn : Int) := by omega
   obtain rfl : gn = k := by omega
   have HCK : Hid (checkPl t p = 0) := by
    show _ = _
    unfold checkPl
    rw [if_pos ⟨HQ.out (), by rw [HWL.out, HNB.out ()]⟩, if_pos (all_true_at _ _ (fun k hk => HAL.out k (by rw [HGL.out] at hk; exact hk)))]
   have HOK : Hid (OkTP t p) := check_ok HRT.out H4.out HCK.out
   go_wp2_with fail
   have HC := rNext_any t (unpackG p) HA NA GA hn hc nn nc gn gc sl wr (HT3.out.up BX.out) (HG3.out.up BX.out) HOK.out.ok
   unfold GridPost at HC
   refine HC.mono ?_
   clear HC
   rintro e w5 ⟨XA, xn, xc, he, hx, -, hb⟩
   have he2 : e = .returned (.agg #[.int .i64 p.w, .int .i64 p.h, .int .i64 p.edge, .slice XA xn xc]) := he
   subst he2
   have HX : Hid (GAt w5 (nextG t (unpackG p)) XA xn) := hx
   have BW5 : Hid (Below w.heap.size w w5) := below_on2 BWr.out hb
   have RZ5 : Hid (Row w5 (w.heap.size + 1 + 1) 42 [.int .i64 0, .int .i64 0, .int .i64 0, .slice none 0 0]) := rowCells RZr.out hb
   have hs5 : w2.heap.size < w5.heap.size := Nat.lt_of_lt_of_le gl hb.size
   clear he hx hb g0 g1 g2 g3 gl k0 k1 k2 kl RGr RTr RZr
   go_wp2_with fail
   have HC := rPack_any (nextG t (unpackG p)) XA xn xc n w5 HX.out
   have HE0 : Hid (∀ _ : Unit, packErr (nextG t (unpackG p)) n = 0 ∧ packR (nextG t (unpackG p)) n = nextPl t p) := fun _ => by
    have h1 := next_packErr HOK.out
    rw [HWL.out] at h1
    exact ⟨h1, by unfold packR; rw [if_pos h1, next_pl HOK.out, HWL.out, Int.toNat_natCast]⟩
   rw [(HE0.out ()).1, (HE0.out ()).2] at HC
   unfold PPost at HC
   refine HC.mono ?_
   clear HC
   rintro e w6 ⟨QA, qn, qc, M, gs, he, ho, ⟨hl1, hl2, hl3⟩, hb⟩
   have he2 : e = .returned (.tuple #[.agg #[.int .i64 p.w, .int .i64 p.h, .int .i64 p.edge, .slice QA qn qc], .int .i64 0]) := he
   subst he2
   obtain ⟨ks, hks⟩ := ho.sep hl1 (by unfold maxLen; omega) (by unfold maxLen; omega)
   have HS : Hid (∀ lo hi, hi ≤ w5.heap.size → PSep w6 (nextPl t p) QA qn ks lo hi) := hks
   have BW6 : Hid (Below w.heap.size w w6) := below_on2 BW5.out hb
   have RZ6 : Hid (Row w6 (w.heap.size + 1 + 1) 42 [.int .i64 0, .int .i64 0, .int .i64 0, .slice none 0 0]) := rowCells RZ5.out hb
   clear he ho hks hl1 hl2 hl3 hb
   go_upto_region 11 with fail
   have RQ : Hid (Row (World.alloc w6 (.cells #[.int .i64 p.w, .int .i64 p.h, .int .i64 p.edge, .slice QA qn qc] 42)) (w6.heap.size) 42 [.int .i64 p.w, .int .i64 p.h, .int .i64 p.edge, .slice QA qn qc]) := by
    have h0 := Row.new w6 42 [.int .i64 p.w, .int .i64 p.h, .int .i64 p.edge, .slice QA qn qc]
    try simp only [World.size_alloc] at h0
    exact h0
   have hgr9 : Below w6.heap.size w6 (World.alloc w6 (.cells #[.int .i64 p.w, .int .i64 p.h, .int .i64 p.edge, .slice QA qn qc] 42)) := by go_grown
   have B_w6 : Hid (Below w6.heap.size w6 (World.alloc w6 (.cells #[.int .i64 p.w, .int .i64 p.h, .int .i64 p.edge, .slice QA qn qc] 42))) := hgr9
   clear hgr9
   revert RQ B_w6
   generalize (World.alloc w6 (.cells #[.int .i64 p.w, .int .i64 p.h, .int .i64 p.edge, .slice QA qn qc] 42)) = w7
   intro RQ B_w6
   have BW7 : Hid (Below w.heap.size w w7) := below_on2 BW6.out B_w6.out
   have RZ7 : Hid (Row w7 (w.heap.size + 1 + 1) 42 [.int .i64 0, .int .i64 0, .int .i64 0, .slice none 0 0]) := rowCells RZ6.out B_w6.out
   have HS7 : Hid (∀ lo hi, hi ≤ w5.heap.size → PSep w7 (nextPl t p) QA qn ks lo hi) := fun lo hi h => (HS.out lo hi h).up B_w6.out
   have HCP : Hid (checkPl t p = 0 ∧ stepPl t p = nextPl t p) := ⟨HCK.out, by unfold stepPl; rw [if_pos HCK.out]⟩
   clear HCK
   have qR : Hid (Row w7 (w6.heap.size) 42 [.int .i64 p.w, .int .i64 p.h, .int .i64 p.edge, .slice QA qn qc]) := RQ.out
   obtain ⟨q0, q1, q2, q3, ql⟩ := qR.out.cells4
   clear qR
   have h10 := HS2.out
   have h11 : w2.heap.size < w5.heap.size := hs5
   obtain ⟨z0, z1, z2, z3, zl⟩ := RZ7.out.cells4
   have zf0 := RZ7.out.frozen 0
   have zf1 := RZ7.out.frozen 1
   have zf2 := RZ7.out.frozen 2
   have zf3 := RZ7.out.frozen 3
   go_wp2_with fail
   have Z9 : Row (World.setCell (World.setCell (World.setCell (World.setCell w7 ⟨(w.heap.size + 1 + 1), 0, none⟩ (.int .i64 p.w)) ⟨(w.heap.size + 1 + 1), 1, none⟩ (.int .i64 p.h)) ⟨(w.heap.size + 1 + 1), 2, none⟩ (.int .i64 p.edge)) ⟨(w.heap.size + 1 + 1), 3, none⟩ (.slice QA qn qc)) (w.heap.size + 1 + 1) 42 [.int .i64 p.w, .int .i64 p.h, .int .i64 p.edge, .slice QA qn qc] := (Row.set (Row.set (Row.set (Row.set RZ7.out 0 (.int .i64 p.w)) 1 (.int .i64 p.h)) 2 (.int .i64 p.edge)) 3 (.slice QA qn qc))
   have B9 : Below w.heap.size w (World.setCell (World.setCell (World.setCell (World.setCell w7 ⟨(w.heap.size + 1 + 1), 0, none⟩ (.int .i64 p.w)) ⟨(w.heap.size + 1 + 1), 1, none⟩ (.int .i64 p.h)) ⟨(w.heap.size + 1 + 1), 2, none⟩ (.int .i64 p.edge)) ⟨(w.heap.size + 1 + 1), 3, none⟩ (.slice QA qn qc)) := (Below.setCell (Below.setCell (Below.setCell (Below.setCell BW7.out (p := ⟨(w.heap.size + 1 + 1), 0, none⟩) (by show w.heap.size ≤ w.heap.size + 1 + 1; omega) (.int .i64 p.w)) (p := ⟨(w.heap.size + 1 + 1), 1, none⟩) (by show w.heap.size ≤ w.heap.size + 1 + 1; omega) (.int .i64 p.h)) (p := ⟨(w.heap.size + 1 + 1), 2, none⟩) (by show w.heap.size ≤ w.heap.size + 1 + 1; omega) (.int .i64 p.edge)) (p := ⟨(w.heap.size + 1 + 1), 3, none⟩) (by show w.heap.size ≤ w.heap.size + 1 + 1; omega) (.slice QA qn qc))
   have d0 := Z9.cell 0
   have d1 := Z9.cell 1
   have d2 := Z9.cell 2
   have d3 := Z9.cell 3
   simp only [List.getElem?_cons_zero, List.getElem?_cons_succ] at d0 d1 d2 d3
   clear Z9
   refine bodyPost_ret (v := .tuple #[.agg #[.int .i64 p.w, .int .i64 p.h, .int .i64 p.edge, .slice QA qn qc], .int .i64 0]) (by simp [results, Try.results17, go_sem, d0, d1, d2, d3]) rfl ?_
   rw [HCP.out.1, HCP.out.2]
   have hF := (PSep.far (PSep.far (PSep.far (PSep.far (HS7.out w.heap.size (w.heap.size + 3) (by omega)) (q := ⟨(w.heap.size + 1 + 1), 0, none⟩) (by show w.heap.size ≤ w.heap.size + 1 + 1; omega) (by show w.heap.size + 1 + 1 < w.heap.size + 3; omega) (.int .i64 p.w)) (q := ⟨(w.heap.size + 1 + 1), 1, none⟩) (by show w.heap.size ≤ w.heap.size + 1 + 1; omega) (by show w.heap.size + 1 + 1 < w.heap.size + 3; omega) (.int .i64 p.h)) (q := ⟨(w.heap.size + 1 + 1), 2, none⟩) (by show w.heap.size ≤ w.heap.size + 1 + 1; omega) (by show w.heap.size + 1 + 1 < w.heap.size + 3; omega) (.int .i64 p.edge)) (q := ⟨(w.heap.size + 1 + 1), 3, none⟩) (by show w.heap.size ≤ w.heap.size + 1 + 1; omega) (by show w.heap.size + 1 + 1 < w.heap.size + 3; omega) (.slice QA qn qc))
   exact ⟨QA, qn, qc, ks, rfl, fun lo hi h => ⟨hF.pat, (HS7.out lo hi (by omega)).top, (HS7.out lo hi (by omega)).row⟩, hF.pat, B9⟩
end Go.Proofs.Ytiemhbogbaamlaa

