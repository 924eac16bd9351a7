/-
 A part.
-/
import Derived.Test.YtiemhbogbaamlaaYE2
import Derived.Test.YtiemhbogbaamlaaProg
import Derived.Test.YtiemhbogbaamlaaYE7
import Derived.Test.YtiemhbogbaamlaaYE6
import Derived.Laws.CopyOwn
import Derived.Deep.RegionLaw
import Derived.WalkSpells
import Derived.Deep.Light
import Derived.Test.YtiemhbogbaamlaaYE1
import Derived.Test.YtiemhbogbaamlaaYE16
import Derived.Test.YtiemhbogbaamlaaYE22
import Derived.BigRegion
import Derived.Deep.QuietTactic
import Derived.BigQuiet
import Derived.Laws.BitsAllLaws
namespace Go.Proofs.Ytiemhbogbaamlaa
open Go.RowKit
set_option linter.unusedSimpArgs false
set_option linter.unusedVariables false
theorem pt_info : (Try.prog.info? 73).map (fun i => (i.zero, i.size, i.bytes)) = some (some (.agg #[.int .i64 0, .int .i64 0]), 2, 16) := by kernel_rfl
theorem hoodCells_one (l : List Pt) : ∀ u ∈ hoodCells l, u.oneCell' = true := by
 intro u hu
 simp only [hoodCells, ptCells, List.mem_flatMap, List.mem_cons, List.not_mem_nil, or_false] at hu
 obtain ⟨p, _, rfl | rfl⟩ := hu <;> rfl
set_option maxHeartbeats 400000 in
theorem clone_pts (A : Option Addr) (n c : Nat) (l : List Pt) (w : World) (hr : Rd w w.heap.size 2 A n (hoodCells l)) (hn : n ≤ 20000) :
 Calls Try.prog 32 #[.slice A n c] w fun e w' => ∃ A' c', e = .returned (.slice A' n c') ∧ w'.ownsRow w.heap.size 73 2 (.slice A' n c') n (hoodCells l) ∧ Below w.heap.size w w' := by
 have HR : Hid (Rd w w.heap.size 2 A n (hoodCells l)) := hr
 clear hr
 cases A with
 | none =>
  have h0 : n = 0 := by
   rcases Nat.eq_zero_or_pos n with h | h
   ·exact h
   ·obtain ⟨ad, e, _⟩ := HR.out.ex h; cases e
  subst h0
  have hc : hoodCells l = [] := List.eq_nil_of_length_eq_zero (by have := HR.out.1; simpa using this)
  have HC : Hid (hoodCells l = []) := hc
  clear hc
  have e1 := fun W => Lib.run_eql_slice_nil (P := Try.prog) W 22 73 none 0 c 0 0 Try.underlying22
  go_enter Try.func32, Try.ntmps32
  go_wp2
  go_ret
  refine ⟨none, 0, rfl, ?_, Below.refl _ _⟩
  rw [HC.out]
  exact World.ownsRow_nil _ _ _ _
 | some ad =>
  have e1 := fun W => Lib.run_eql_slice_nil (P := Try.prog) W 22 73 (some ad) n c 0 0 Try.underlying22
  go_enter Try.func32, Try.ntmps32
  go_wp2_with (at_builtin; refine wpList_app rfl (.tmp 5) (.tmp 6) 22 rfl w.heap.size 73 (.agg #[.int .i64 0, .int .i64 0]) 2 16 Try.underlying22 pt_info rfl (by decide) (by decide) (.slice (some ⟨w.heap.size, 0, none⟩) 0 0) 0 [] rfl ?own w.heap.size (some ad) n c (hoodCells l) rfl ?rd (hoodCells_one l) ?hb ?hbase ?_)
  case own => exact Row.own (xs := []) (Row.new _ _ _) (Nat.le_refl _) rfl (by unfold maxLen; omega)
  case rd => exact HR.out.below (show Below w.heap.size w _ by go_grown) (Nat.le_refl _)
  case hb => omega
  case hbase => simp
  intro v' w' hown' hgrow' hat'
  have HB : Aside (Below w.heap.size w w') := (show Below w.heap.size w (w.alloc (.cells #[] 73)) by go_grown).grown hgrow' (by simp) (fun k hk => by simp [Value.ownBlock] at hk; omega)
  have HO : Aside (w'.ownsRow w.heap.size 73 2 v' n (hoodCells l)) := by
   show w'.ownsRow _ _ _ _ _ _
   simpa using hown'
  clear hown' hgrow' hat'
  obtain ⟨A', c', rfl, _⟩ := Rd.own HO.out
  go_wp2
  go_ret
  exact ⟨A', c', rfl, HO.out, HB.out⟩
end Go.Proofs.Ytiemhbogbaamlaa

/-
 A part.
-/
namespace Go.Proofs.Ytiemhbogbaamlaa
open Go.RowKit
set_option linter.unusedSimpArgs false
set_option linter.unusedVariables false
structure EngAt (W : World) (b : Nat) (t : Tre) (GA OA PA : Option Addr) (gn gc on oc pn pc : Nat) : Prop where
 row : Row W b 75 [.int .i64 (circT t).inputs, .slice GA gn gc, .slice OA on oc, .slice PA pn pc, .int .i64 t.states]
 circ : CAt W (circT t) GA OA gn on
 hood : Rd W W.heap.size 2 PA pn (hoodCells t.hood)
 rt : rightT t = true
 few : t.nodes.length ≤ 400
theorem EngAt.up {W W' : World} {b : Nat} {t : Tre} {GA OA PA : Option Addr} {gn gc on oc pn pc : Nat} (h : EngAt W b t GA OA PA gn gc on oc pn pc) (hb : Below W.heap.size W W') : EngAt W' b t GA OA PA gn gc on oc pn pc :=
 ⟨rowCells h.row hb, h.circ.up hb, h.hood.up hb, h.rt, h.few⟩
theorem EngAt.pl {W : World} {b : Nat} {t : Tre} {GA OA PA : Option Addr} {gn gc on oc pn pc : Nat} (h : EngAt W b t GA OA PA gn gc on oc pn pc) : t.hood.length = pn := by
 have := h.hood.1; rw [hoodCells, flat2_length _ (fun _ => rfl)] at this; omega
def EngPost (t : Tre) (w : World) (e : Ending) (w' : World) : Prop :=
 (rightT t = true ∧ ∃ b GA OA PA gn gc on oc pn pc, e = .returned (.tuple #[.pointer (some ⟨b, 0, none⟩), .int .i64 0]) ∧ EngAt w' b t GA OA PA gn gc on oc pn pc ∧ Below w.heap.size w w') ∨
 (rightT t = false ∧ e = .returned (.tuple #[.pointer none, .int .i64 11]) ∧ Below w.heap.size w w')
set_option maxRecDepth 100000 in
set_option maxHeartbeats 8000000 in
theorem new_any (t : Tre) (HA NA : Option Addr) (hn hc nn nc : Nat) (sl : List Sl) (w : World) (h : TAt w t HA NA hn nn sl) (h400 : nn ≤ 400) :
 Calls Try.prog 10 #[.agg #[.int .i64 t.states, .slice HA hn hc, .slice NA nn nc]] w (EngPost t w) := by
 have HT : Hid (TAt w t HA NA hn nn sl) := h
 have HLN : Hid (t.nodes.length = nn) := h.nl
 have HLH : Hid (t.hood.length = hn) := h.hl
 clear h
 go_enter Try.func10, Try.ntmps10
 go_upto_region 1 with fail
 have RT : Hid (Row (World.alloc w (.cells #[.int .i64 t.states, .slice HA hn hc, .slice NA nn nc] 25)) (w.heap.size) 25 [.int .i64 t.states, .slice HA hn hc, .slice NA nn nc]) := by
  have h0 := Row.new w 25 [.int .i64 t.states, .slice HA hn hc, .slice NA nn nc]
  try simp only [World.size_alloc] at h0
  exact h0
 have hgr9 : Below w.heap.size w (World.alloc w (.cells #[.int .i64 t.states, .slice HA hn hc, .slice NA nn nc] 25)) := by go_grown
 have B_w : Hid (Below w.heap.size w (World.alloc w (.cells #[.int .i64 t.states, .slice HA hn hc, .slice NA nn nc] 25))) := hgr9
 clear hgr9
 revert RT B_w
 generalize (World.alloc w (.cells #[.int .i64 t.states, .slice HA hn hc, .slice NA nn nc] 25)) = wa
 intro RT B_w
 have kR : Hid (Row wa (w.heap.size) 25 [.int .i64 t.states, .slice HA hn hc, .slice NA nn nc]) := RT.out
 obtain ⟨k0, k1, k2, kl⟩ := kR.out.cells3
 clear kR
 go_wp2_with fail
 have HC := lower_any t HA NA hn hc nn nc sl wa (HT.out.up B_w.out) h400
 unfold CPost at HC
 obtain ⟨q, hq⟩ : ∃ q, rightT t = q := ⟨_, rfl⟩
 have HQ : Hid (∀ _ : Unit, rightT t = q) := fun _ => hq
 have hle : lowErr t = if q = true then 0 else 11 := by rw [lowErr, hq]
 rw [hle] at HC
 clear hle hq
 refine HC.mono ?_
 clear HC
 rintro e w1 ⟨GA, OA, gn, gc, on, oc, he, hca, hb⟩
 have he2 : e = .returned (.tuple #[.agg #[.int .i64 (lowR t).inputs, .slice GA gn gc, .slice OA on oc], .int .i64 (if q = true then 0 else 11)]) := he
 subst he2
 have HL : Hid (CAt w1 (lowR t) GA OA gn on) := hca
 clear he hca
 have B_w : Hid (Below w.heap.size w w1) := below_on2 B_w.out hb
 have B_wa : Hid (Below wa.heap.size wa w1) := hb
 clear k0 k1 k2 kl
 clear hb
 cases q
 ·have hif : (if false = true then (0 : Int) else 11) = 11 := rfl
  rw [hif]
  go_upto_region 2 with fail
  have RL : Hid (Row (World.alloc w1 (.cells #[.int .i64 (lowR t).inputs, .slice GA gn gc, .slice OA on oc] 37)) (w1.heap.size) 37 [.int .i64 (lowR t).inputs, .slice GA gn gc, .slice OA on oc]) := by
   have h0 := Row.new w1 37 [.int .i64 (lowR t).inputs, .slice GA gn gc, .slice OA on oc]
   try simp only [World.size_alloc] at h0
   exact h0
  have hgr9 : Below w1.heap.size w1 (World.alloc w1 (.cells #[.int .i64 (lowR t).inputs, .slice GA gn gc, .slice OA on oc] 37)) := by go_grown
  have B_w : Hid (Below w.heap.size w (World.alloc w1 (.cells #[.int .i64 (lowR t).inputs, .slice GA gn gc, .slice OA on oc] 37))) := below_on2 B_w.out hgr9
  have B_wa : Hid (Below wa.heap.size wa (World.alloc w1 (.cells #[.int .i64 (lowR t).inputs, .slice GA gn gc, .slice OA on oc] 37))) := below_on2 B_wa.out hgr9
  have B_w1 : Hid (Below w1.heap.size w1 (World.alloc w1 (.cells #[.int .i64 (lowR t).inputs, .slice GA gn gc, .slice OA on oc] 37))) := hgr9
  clear hgr9
  revert RL B_w B_wa B_w1
  generalize (World.alloc w1 (.cells #[.int .i64 (lowR t).inputs, .slice GA gn gc, .slice OA on oc] 37)) = w2
  intro RL B_w B_wa B_w1
  go_wp2_with fail
  go_ret2
  exact .inr ⟨HQ.out (), rfl, B_w.out⟩
 have hif : (if true = true then (0 : Int) else 11) = 0 := rfl
 rw [hif]
 clear hif
 have HR : Hid (rightT t = true) := HQ.out ()
 clear HQ
 go_upto_region 2 with fail
 have RL : Hid (Row (World.alloc w1 (.cells #[.int .i64 (lowR t).inputs, .slice GA gn gc, .slice OA on oc] 37)) (w1.heap.size) 37 [.int .i64 (lowR t).inputs, .slice GA gn gc, .slice OA on oc]) := by
  have h0 := Row.new w1 37 [.int .i64 (lowR t).inputs, .slice GA gn gc, .slice OA on oc]
  try simp only [World.size_alloc] at h0
  exact h0
 have hgr9 : Below w1.heap.size w1 (World.alloc w1 (.cells #[.int .i64 (lowR t).inputs, .slice GA gn gc, .slice OA on oc] 37)) := by go_grown
 have B_w : Hid (Below w.heap.size w (World.alloc w1 (.cells #[.int .i64 (lowR t).inputs, .slice GA gn gc, .slice OA on oc] 37))) := below_on2 B_w.out hgr9
 have B_wa : Hid (Below wa.heap.size wa (World.alloc w1 (.cells #[.int .i64 (lowR t).inputs, .slice GA gn gc, .slice OA on oc] 37))) := below_on2 B_wa.out hgr9
 have B_w1 : Hid (Below w1.heap.size w1 (World.alloc w1 (.cells #[.int .i64 (lowR t).inputs, .slice GA gn gc, .slice OA on oc] 37))) := hgr9
 clear hgr9
 revert RL B_w B_wa B_w1
 generalize (World.alloc w1 (.cells #[.int .i64 (lowR t).inputs, .slice GA gn gc, .slice OA on oc] 37)) = w2
 intro RL B_w B_wa B_w1
 have hh := hood_pos HR.out
 rw [HLH.out] at hh
 have hu : undef = Value.tuple #[] := rfl
 have kR : Hid (Row w2 (w1.heap.size) 37 [.int .i64 (lowR t).inputs, .slice GA gn gc, .slice OA on oc]) := RL.out
 obtain ⟨k0, k1, k2, kl⟩ := kR.out.cells3
 clear kR
 have jR : Hid (Row w2 (w.heap.size) 25 [.int .i64 t.states, .slice HA hn hc, .slice NA nn nc]) := (rowCells RT.out B_wa.out)
 obtain ⟨j0, j1, j2, jl⟩ := jR.out.cells3
 clear jR
 go_wp2_with fail
 refine wp_region_L (fun w' => Row w' (w1.heap.size) 37 [.int .i64 (lowR t).inputs, .slice GA gn gc, .slice OA on oc] ∧ Row w' (w.heap.size) 25 [.int .i64 t.states, .slice HA hn hc, .slice NA nn nc]) [] (by kernel_rfl) (by exact ⟨Row.drew RL.out, Row.drew (rowCells RT.out B_wa.out)⟩) (fun hHeld => ?_)
 have B_w : Hid (Below w.heap.size w (World.drew w2)) := B_w.out.drew
 have B_wa : Hid (Below wa.heap.size wa (World.drew w2)) := B_wa.out.drew
 have B_w1 : Hid (Below w1.heap.size w1 (World.drew w2)) := B_w1.out.drew
 have B_w2 : Hid (Below w2.heap.size w2 (World.drew w2)) := (Below.refl _ _).drew
 clear k0 k1 k2 kl j0 j1 j2 jl
 revert hHeld B_w B_wa B_w1 B_w2
 generalize World.drew w2 = w2q
 intro hHeld B_w B_wa B_w1 B_w2
 refine lPureW 2 ?vn1 rfl (by rfl) ?yn1 ?rn1
 case yn1 => intro w' hSw; clear hSw; go_simp; try (with_reducible rfl)
 go_simp
 refine lPureW 5 ?vn2 rfl (by rfl) ?yn2 ?rn2
 case yn2 => intro w' hSw; clear hSw; go_simp; try (with_reducible rfl)
 go_simp
 refine lTakeW 0 ?vn3 [] rfl (by rfl) ?yn3 hHeld ?rn3
 case yn3 =>
  intro w' hSw
  obtain ⟨s0, s1⟩ := hSw
  have hT0 : Hid (Row w' (w1.heap.size) 37 [.int .i64 (lowR t).inputs, .slice GA gn gc, .slice OA on oc]) := s0
  obtain ⟨z0_0, z0_1, z0_2, z0_l⟩ := hT0.out.cells3
  have hT1 : Hid (Row w' (w.heap.size) 25 [.int .i64 t.states, .slice HA hn hc, .slice NA nn nc]) := s1
  obtain ⟨z1_0, z1_1, z1_2, z1_l⟩ := hT1.out.cells3
  clear s0 s1
  go_simp
  try (with_reducible rfl)
 go_simp
 refine lTakeW 3 ?vn4 [] rfl (by rfl) ?yn4 hHeld ?rn4
 case yn4 =>
  intro w' hSw
  obtain ⟨s0, s1⟩ := hSw
  have hT0 : Hid (Row w' (w1.heap.size) 37 [.int .i64 (lowR t).inputs, .slice GA gn gc, .slice OA on oc]) := s0
  obtain ⟨z0_0, z0_1, z0_2, z0_l⟩ := hT0.out.cells3
  have hT1 : Hid (Row w' (w.heap.size) 25 [.int .i64 t.states, .slice HA hn hc, .slice NA nn nc]) := s1
  obtain ⟨z1_0, z1_1, z1_2, z1_l⟩ := hT1.out.cells3
  clear s0 s1
  go_simp
  try (with_reducible rfl)
 go_simp
 refine lTakeW 6 ?vn5 [] rfl (by rfl) ?yn5 hHeld ?rn5
 case yn5 =>
  intro w' hSw
  obtain ⟨s0, s1⟩ := hSw
  have hT0 : Hid (Row w' (w1.heap.size) 37 [.int .i64 (lowR t).inputs, .slice GA gn gc, .slice OA on oc]) := s0
  obtain ⟨z0_0, z0_1, z0_2, z0_l⟩ := hT0.out.cells3
  have hT1 : Hid (Row w' (w.heap.size) 25 [.int .i64 t.states, .slice HA hn hc, .slice NA nn nc]) := s1
  obtain ⟨z1_0, z1_1, z1_2, z1_l⟩ := hT1.out.cells3
  clear s0 s1
  go_simp
  try (with_reducible rfl)
 go_simp
 refine restL_one (i := 1) (by kernel_rfl) rfl (fun K hK => ?_)
 go_simp
 go_at_call 31
 have HC := all_any (lowR t) GA OA gn gc on oc w2q (HL.out.up B_w1.out)
 refine HC.mono ?_
 clear HC
 rintro e y1 ⟨DA, DB, Dn, Dc, Dm, Dd, he, hca, -, -, hb⟩
 have he2 : e = .returned (.agg #[.int .i64 (allC (lowR t)).inputs, .slice DA Dn Dc, .slice DB Dm Dd]) := he
 subst he2
 have HD : Hid (CAt y1 (allC (lowR t)) DA DB Dn Dm) := hca
 clear he hca hHeld
 have B_w : Hid (Below w.heap.size w y1) := below_on2 B_w.out hb
 have B_wa : Hid (Below wa.heap.size wa y1) := below_on2 B_wa.out hb
 have B_w1 : Hid (Below w1.heap.size w1 y1) := below_on2 B_w1.out hb
 have B_w2 : Hid (Below w2.heap.size w2 y1) := below_on2 B_w2.out hb
 have B_w2q : Hid (Below w2q.heap.size w2q y1) := hb
 clear hb
 refine hK.out _ _ (fun _ => ?keep) (fun hHeld => ?_)
 case keep => exact ⟨(rowCells RL.out B_w2.out), (rowCells RT.out B_wa.out)⟩
 have hHeld := hHeld rfl
 clear hK K
 try go_simp
 refine restL_one (i := 4) (by kernel_rfl) rfl (fun K hK => ?_)
 go_simp
 go_at_call 32
 have HC := clone_pts HA hn hc t.hood y1 (HT.out.up B_w.out).hood (by omega)
 refine HC.mono ?_
 clear HC
 rintro e y2 ⟨PA, pc, rfl, hown, hb⟩
 have HP : Hid (Rd y2 y2.heap.size 2 PA hn (hoodCells t.hood)) := Rd.of_own hown
 clear hown hHeld
 have B_w : Hid (Below w.heap.size w y2) := below_on2 B_w.out hb
 have B_wa : Hid (Below wa.heap.size wa y2) := below_on2 B_wa.out hb
 have B_w1 : Hid (Below w1.heap.size w1 y2) := below_on2 B_w1.out hb
 have B_w2 : Hid (Below w2.heap.size w2 y2) := below_on2 B_w2.out hb
 have B_w2q : Hid (Below w2q.heap.size w2q y2) := below_on2 B_w2q.out hb
 have B_y1 : Hid (Below y1.heap.size y1 y2) := hb
 clear hb
 refine hK.out _ _ (fun _ => ?keep) (fun hHeld => ?_)
 case keep => exact ⟨(rowCells RL.out B_w2.out), (rowCells RT.out B_wa.out)⟩
 have hHeld := hHeld rfl
 clear hK K
 try go_simp
 refine lPureW 7 ?vn6 rfl (by rfl) ?yn6 ?rn6
 case yn6 => intro w' hSw; clear hSw; go_simp; try (with_reducible rfl)
 go_simp
 refine restL_one (i := 8) (by kernel_rfl) rfl (fun K hK => ?_)
 go_simp
 have RE : Hid (Row (World.alloc y2 (.cells #[.int .i64 (allC (lowR t)).inputs, .slice DA Dn Dc, .slice DB Dm Dd, .slice PA hn pc, .int .i64 t.states] 75)) y2.heap.size 75 [.int .i64 (allC (lowR t)).inputs, .slice DA Dn Dc, .slice DB Dm Dd, .slice PA hn pc, .int .i64 t.states]) := Row.new y2 75 [.int .i64 (allC (lowR t)).inputs, .slice DA Dn Dc, .slice DB Dm Dd, .slice PA hn pc, .int .i64 t.states]
 have hb : Below y2.heap.size y2 (World.alloc y2 (.cells #[.int .i64 (allC (lowR t)).inputs, .slice DA Dn Dc, .slice DB Dm Dd, .slice PA hn pc, .int .i64 t.states] 75)) := (Below.refl _ _).alloc (Nat.le_refl _) _
 revert RE hb
 generalize (World.alloc y2 (.cells #[.int .i64 (allC (lowR t)).inputs, .slice DA Dn Dc, .slice DB Dm Dd, .slice PA hn pc, .int .i64 t.states] 75)) = y3
 intro RE hb
 clear hHeld
 have B_w : Hid (Below w.heap.size w y3) := below_on2 B_w.out hb
 have B_wa : Hid (Below wa.heap.size wa y3) := below_on2 B_wa.out hb
 have B_w1 : Hid (Below w1.heap.size w1 y3) := below_on2 B_w1.out hb
 have B_w2 : Hid (Below w2.heap.size w2 y3) := below_on2 B_w2.out hb
 have B_w2q : Hid (Below w2q.heap.size w2q y3) := below_on2 B_w2q.out hb
 have B_y1 : Hid (Below y1.heap.size y1 y3) := below_on2 B_y1.out hb
 have B_y2 : Hid (Below y2.heap.size y2 y3) := hb
 clear hb
 refine hK.out _ _ (fun _ => ?keep) (fun hHeld => ?_)
 case keep => exact ⟨(rowCells RL.out B_w2.out), (rowCells RT.out B_wa.out)⟩
 have hHeld := hHeld rfl
 clear hK K
 try go_simp
 refine lPureW 9 ?vn7 rfl (by rfl) ?yn7 ?rn7
 case yn7 => intro w' hSw; clear hSw; go_simp; try (with_reducible rfl)
 go_simp
 refine lPureW 10 ?vn8 rfl (by rfl) ?yn8 ?rn8
 case yn8 => intro w' hSw; clear hSw; go_simp; try (with_reducible rfl)
 go_simp
 refine restL_done (by kernel_rfl) ?_ _
 go_wp2_with fail
 go_ret2
 exact .inl ⟨HR.out, _, _, _, _, _, _, _, _, _, _, rfl, ⟨RE.out, (HD.out.up B_y1.out), (HP.out.up B_y2.out), HR.out, (by rw [HLN.out]; exact h400)⟩, B_w.out⟩
set_option maxRecDepth 100000 in
set_option maxHeartbeats 2000000 in
theorem circuit_any (b : Nat) (t : Tre) (GA OA PA : Option Addr) (gn gc on oc pn pc : Nat) (w : World) (h : EngAt w b t GA OA PA gn gc on oc pn pc) :
 Calls Try.prog 13 #[.pointer (some ⟨b, 0, none⟩)] w fun e w' => e = .returned (.agg #[.int .i64 (circT t).inputs, .slice GA gn gc, .slice OA on oc]) ∧ Below w.heap.size w w' := by
 have HE : Hid (EngAt w b t GA OA PA gn gc on oc pn pc) := h
 clear h
 go_enter Try.func13, Try.ntmps13
 go_upto_region 1 with fail
 have RZ : Hid (Row (World.alloc w (.cells #[.int .i64 0, .slice none 0 0, .slice none 0 0] 37)) (w.heap.size) 37 [.int .i64 0, .slice none 0 0, .slice none 0 0]) := by
  have h0 := Row.new w 37 [.int .i64 0, .slice none 0 0, .slice none 0 0]
  try simp only [World.size_alloc] at h0
  exact h0
 have hgr9 : Below w.heap.size w (World.alloc w (.cells #[.int .i64 0, .slice none 0 0, .slice none 0 0] 37)) := by go_grown
 have B_w : Hid (Below w.heap.size w (World.alloc w (.cells #[.int .i64 0, .slice none 0 0, .slice none 0 0] 37))) := hgr9
 clear hgr9
 revert RZ B_w
 generalize (World.alloc w (.cells #[.int .i64 0, .slice none 0 0, .slice none 0 0] 37)) = wa
 intro RZ B_w
 have RE : Hid (Row wa b 75 [.int .i64 (circT t).inputs, .slice GA gn gc, .slice OA on oc, .slice PA pn pc, .int .i64 t.states]) := (HE.out.up B_w.out).row
 obtain ⟨k0, k1, k2, k3, k4, kl⟩ := RE.out.cells5
 obtain ⟨z0, z1, z2, zl⟩ := RZ.out.cells3
 have zf0 := RZ.out.frozen 0
 have zf1 := RZ.out.frozen 1
 have zf2 := RZ.out.frozen 2
 go_wp2
 have Z9 : Row (World.setCell (World.setCell (World.setCell wa ⟨w.heap.size, 0, none⟩ (.int .i64 (circT t).inputs)) ⟨w.heap.size, 1, none⟩ (.slice GA gn gc)) ⟨w.heap.size, 2, none⟩ (.slice OA on oc)) w.heap.size 37 [.int .i64 (circT t).inputs, .slice GA gn gc, .slice OA on oc] := (Row.set (Row.set (Row.set RZ.out 0 (.int .i64 (circT t).inputs)) 1 (.slice GA gn gc)) 2 (.slice OA on oc))
 have B9 : Below w.heap.size w (World.setCell (World.setCell (World.setCell wa ⟨w.heap.size, 0, none⟩ (.int .i64 (circT t).inputs)) ⟨w.heap.size, 1, none⟩ (.slice GA gn gc)) ⟨w.heap.size, 2, none⟩ (.slice OA on oc)) := (Below.setCell (Below.setCell (Below.setCell B_w.out (p := ⟨w.heap.size, 0, none⟩) (Nat.le_refl _) (.int .i64 (circT t).inputs)) (p := ⟨w.heap.size, 1, none⟩) (Nat.le_refl _) (.slice GA gn gc)) (p := ⟨w.heap.size, 2, none⟩) (Nat.le_refl _) (.slice OA on oc))
 have d0 := Z9.cell 0
 have d1 := Z9.cell 1
 have d2 := Z9.cell 2
 simp only [List.getElem?_cons_zero, List.getElem?_cons_succ] at d0 d1 d2
 clear Z9
 refine bodyPost_ret (v := .agg #[.int .i64 (circT t).inputs, .slice GA gn gc, .slice OA on oc]) (by simp [results, Try.results13, go_sem, d0, d1, d2]) rfl ?_
 exact ⟨rfl, B9⟩
end Go.Proofs.Ytiemhbogbaamlaa

/-
 A part.
-/
namespace Go.Proofs.Ytiemhbogbaamlaa
open Go.RowKit
set_option linter.unusedSimpArgs false
set_option linter.unusedVariables false
theorem w64s_length (l : List (BitVec 64)) : (w64s l).length = l.length := by simp [w64s]
end Go.Proofs.Ytiemhbogbaamlaa

/-
 A part.
-/
namespace Go.Proofs.Ytiemhbogbaamlaa
open Go.RowKit
set_option linter.unusedSimpArgs false
set_option linter.unusedVariables false
def slCells (sl : List Sl) : List Value := sl.map (fun s => Value.slice s.at_ s.len s.cap)
theorem slCells_length (sl : List Sl) : (slCells sl).length = sl.length := by simp [slCells]
theorem slCells_get (sl : List Sl) (k : Nat) (h : k < sl.length) : (slCells sl)[k]? = some (.slice (sl.getD k default).at_ (sl.getD k default).len (sl.getD k default).cap) := by
 simp [slCells, List.getElem?_map, List.getElem?_eq_getElem h, List.getD_eq_getElem?_getD]
structure PAt (w : World) (p : Pln) (A : Option Addr) (n : Nat) (sl : List Sl) : Prop where
 rows : Rd w w.heap.size 1 A n (slCells sl)
 sll : sl.length = p.words.length
 next : ∀ i, i < p.words.length → Rd w w.heap.size 1 (sl.getD i default).at_ (sl.getD i default).len (w64s (p.words.getD i [])) ∧ (sl.getD i default).len ≤ maxLen
 n63 : n ≤ maxLen
 cap : ∀ i, i < p.words.length → (sl.getD i default).len ≤ (sl.getD i default).cap ∧ (sl.getD i default).cap ≤ maxLen
theorem PAt.up {w w' : World} {p : Pln} {A : Option Addr} {n : Nat} {sl : List Sl} (h : PAt w p A n sl) (hb : Below w.heap.size w w') : PAt w' p A n sl :=
 ⟨h.rows.up hb, h.sll, fun i hi => ⟨(h.next i hi).1.up hb, (h.next i hi).2⟩, h.n63, h.cap⟩
theorem PAt.wl {w : World} {p : Pln} {A : Option Addr} {n : Nat} {sl : List Sl} (h : PAt w p A n sl) : p.words.length = n := by
 have h1 := h.rows.1
 have h2 := h.sll
 rw [slCells_length] at h1; omega
theorem PAt.row {w : World} {p : Pln} {A : Option Addr} {n : Nat} {sl : List Sl} (h : PAt w p A n sl) {k : Nat} (hk : k < n) :
 ∃ ad, A = some ad ∧ ad.block < w.heap.size ∧ w.cell? (ad.add k) = some (.slice (sl.getD k default).at_ (sl.getD k default).len (sl.getD k default).cap) ∧
  Rd w w.heap.size 1 (sl.getD k default).at_ (sl.getD k default).len (w64s (p.words.getD k [])) ∧ (sl.getD k default).len ≤ maxLen ∧ (p.words.getD k []).length = (sl.getD k default).len := by
 have hl := h.wl
 have hs := h.sll
 obtain ⟨ad, u, e, hb, hu, hc⟩ := h.rows.get1 hk
 rw [slCells_get sl k (by omega)] at hu
 injection hu with hu
 obtain ⟨h1, h2⟩ := h.next k (by omega)
 refine ⟨ad, e, hb, by rw [hc, hu], h1, h2, ?_⟩
 have := h1.1
 rw [w64s_length, Nat.mul_one] at this
 exact this
theorem noPln_at (w : World) : PAt w noPln none 0 [] := ⟨Rd.empty none, rfl, fun i hi => absurd hi (Nat.not_lt_zero _), by unfold maxLen; omega, fun i hi => absurd hi (Nat.not_lt_zero _)⟩
end Go.Proofs.Ytiemhbogbaamlaa

/-
 A part.
-/
namespace Go.Proofs.Ytiemhbogbaamlaa
open Go.RowKit
set_option linter.unusedSimpArgs false
set_option linter.unusedVariables false
theorem w64_andP (x y : BitVec 64) : bits .and .u64 (x.toNat : Int) (y.toNat : Int) = ((x &&& y).toNat : Int) := by
 rw [u64_and_nat _ _ x.isLt y.isLt, BitVec.toNat_and]
theorem w64_orP (x y : BitVec 64) : bits .or .u64 (x.toNat : Int) (y.toNat : Int) = ((x ||| y).toNat : Int) := by
 rw [u64_or_nat _ _ x.isLt y.isLt, BitVec.toNat_or]
theorem w64_andNot (x y : BitVec 64) : bits .andNot .u64 (x.toNat : Int) (y.toNat : Int) = ((x &&& ~~~y).toNat : Int) := by
 rw [u64_andNot_nat _ _ x.isLt y.isLt, BitVec.toNat_and, BitVec.toNat_not]
theorem w64_shr (x : BitVec 64) (k : Nat) : (x.toNat : Int) / 2 ^ k = ((x >>> k).toNat : Int) := by
 rw [BitVec.toNat_ushiftRight, Nat.shiftRight_eq_div_pow, Int.natCast_ediv, Int.natCast_pow]; rfl
theorem w64_bit (x : BitVec 64) (b : Nat) : bits .and .u64 ((x.toNat : Int) / 2 ^ b) 1 = if x.getLsbD b = true then 1 else 0 := by
 rw [w64_shr]
 have h1 : (1 : Int) = (((1#64 : BitVec 64).toNat : Nat) : Int) := rfl
 rw [h1, w64_andP]
 have e : x >>> b &&& 1#64 = if x.getLsbD b = true then 1#64 else 0#64 := by
  apply word_ext
  intro i hi
  rw [BitVec.getLsbD_and, BitVec.getLsbD_ushiftRight, BitVec.getLsbD_one]
  by_cases h0 : i = 0
  ·subst h0
   cases hb : x.getLsbD b <;> simp [hb]
  ·cases hb : x.getLsbD b <;> simp [hb, h0]
 rw [e]
 split <;> rfl
theorem ret_u64 {a b : Int} (h : a = b) : Ending.returned (.int .u64 a) = .returned (.int .u64 b) := by rw [h]
theorem wprI (W : Nat) : ((W : Int) + 63) / 64 = ((wpr W : Nat) : Int) := by unfold wpr; omega
theorem words_any (W : Nat) (w : World) (h : W ≤ 1000) : Calls Try.prog 44 #[.int .i64 W] w fun e w' => e = .returned (.int .i64 (wpr W)) ∧ w = w' := by
 go_enter Try.func44, Try.ntmps44
 go_wp2
 go_ret
 exact ⟨ret_i64 (wprI W), rfl⟩
def b01 (b : Bool) : Int := if b = true then 1 else 0
theorem i64_and1 (n : Int) : bits .and .i64 n 1 = n % 2 := by
 have h1 : (BitVec.ofInt 64 1).toNat = 2 ^ 1 - 1 := by decide
 have key : (BitVec.ofInt 64 n &&& BitVec.ofInt 64 1).toNat = (n % ((2 ^ 64 : Nat) : Int)).toNat % 2 ^ 1 := by
  rw [BitVec.toNat_and, BitVec.toNat_ofInt, h1, Nat.and_two_pow_sub_one_eq_mod]
 show IntKind.i64.wrap ((BitVec.ofInt 64 n &&& BitVec.ofInt 64 1).toNat : Nat) = n % 2
 rw [key, IntKind.wrap_i64]
 omega
set_option maxHeartbeats 1000000 in
theorem pbit_any (l : List (BitVec 64)) (x n c : Nat) (A : Option Addr) (w : World) (h : Rd w w.heap.size 1 A n (w64s l)) (hx : x / 64 < n) (hx2 : x ≤ 100000) (hn : n ≤ maxLen) :
 Calls Try.prog 110 #[.slice A n c, .int .i64 x] w fun e w' => e = .returned (.int .u64 (b01 ((l.getD (x / 64) 0#64).getLsbD (x % 64)))) ∧ w = w' := by
 unfold maxLen at hn
 obtain ⟨q, hq⟩ : ∃ q, q = x / 64 := ⟨_, rfl⟩
 obtain ⟨r, hr⟩ : ∃ r, r = x % 64 := ⟨_, rfl⟩
 rw [← hq] at hx
 rw [← hq, ← hr]
 have hqz : (x : Int) / 64 = (q : Int) := by omega
 have hrz : (x : Int) % 64 = (r : Int) := by omega
 have hr64 : r < 64 := by omega
 obtain ⟨ad, rfl, hb, hc⟩ := h.word hx
 unfold w64 at hc
 generalize l.getD q 0#64 = v at hc
 have HW : Hid (∀ b, bits .and .u64 ((v.toNat : Int) / 2 ^ b) 1 = if v.getLsbD b = true then 1 else 0) := w64_bit v
 have hxq : (q : Int) < (n : Int) := by omega
 clear hq hr h hx
 go_enter Try.func110, Try.ntmps110
 go_wp2
 go_ret
 refine ⟨ret_u64 ?_, rfl⟩
 rw [HW.out, b01]
end Go.Proofs.Ytiemhbogbaamlaa

/-
 A part.
-/
namespace Go.Proofs.Ytiemhbogbaamlaa
open Go.RowKit
set_option linter.unusedSimpArgs false
set_option linter.unusedVariables false
theorem ret_ib {a b : Int} {x y : Bool} (h : a = b) (h' : x = y) : Ending.returned (.tuple #[.int .i64 a, .bool x]) = .returned (.tuple #[.int .i64 b, .bool y]) := by rw [h, h']
theorem mod_walk2 (n m : Int) (hm : 0 < m) : (Int.tmod n m + m) % m = n % m := by
 have h1 : 0 ≤ Int.tmod n m + m := by
  have := Int.lt_tmod_of_pos n hm
  omega
 rw [← Int.tmod_eq_emod_of_nonneg h1, mod_walk n m hm]
theorem sizedF_false {a b e : Int} (h : ¬ ((1 ≤ a ∧ a ≤ 256) ∧ (1 ≤ b ∧ b ≤ 256))) : sizedF a b e = false := by
 unfold sizedF; rw [decide_eq_false]; omega
set_option maxHeartbeats 400000 in
theorem sized_any (a b e : Int) (w : World) :
 Calls Try.prog 74 #[.int .i64 a, .int .i64 b, .int .i64 e] w fun en w' => en = .returned (.bool (sizedF a b e)) ∧ w = w' := by
 by_cases hr : (1 ≤ a ∧ a ≤ 256) ∧ (1 ≤ b ∧ b ≤ 256)
 ·obtain ⟨ha, hb⟩ := hr
  have hp := prod_bd ha hb
  obtain ⟨ha1, ha2⟩ := ha
  obtain ⟨hb1, hb2⟩ := hb
  obtain ⟨hp1, hp2⟩ := hp
  go_enter Try.func74, Try.ntmps74
  go_wp2
  all_goals go_ret
  all_goals refine ⟨ret_bool ?_, rfl⟩
  all_goals unfold sizedF
  all_goals (rw [Bool.eq_iff_iff]; simp; omega)
 ·rw [sizedF_false hr]
  go_enter Try.func74, Try.ntmps74
  go_wp2
  all_goals go_ret
  all_goals refine ⟨ret_bool ?_, rfl⟩
  all_goals first | rfl | (exfalso; omega)
set_option maxHeartbeats 400000 in
theorem rSize_any (a b e : Int) (w : World) :
 Calls Try.prog 41 #[.int .i64 a, .int .i64 b, .int .i64 e] w fun en w' => en = .returned (.bool (sizedF a b e)) ∧ w = w' := by
 by_cases hr : (1 ≤ a ∧ a ≤ 256) ∧ (1 ≤ b ∧ b ≤ 256)
 ·obtain ⟨ha, hb⟩ := hr
  have hp := prod_bd ha hb
  obtain ⟨ha1, ha2⟩ := ha
  obtain ⟨hb1, hb2⟩ := hb
  obtain ⟨hp1, hp2⟩ := hp
  go_enter Try.func41, Try.ntmps41
  go_wp2
  all_goals go_ret
  all_goals refine ⟨ret_bool ?_, rfl⟩
  all_goals unfold sizedF
  all_goals (rw [Bool.eq_iff_iff]; simp; omega)
 ·rw [sizedF_false hr]
  go_enter Try.func41, Try.ntmps41
  go_wp2
  all_goals go_ret
  all_goals refine ⟨ret_bool ?_, rfl⟩
  all_goals first | rfl | (exfalso; omega)
set_option maxHeartbeats 400000 in
theorem rMod_any (n m : Int) (w : World) (h1 : 1 ≤ m) (h2 : m ≤ 1000000) :
 Calls Try.prog 77 #[.int .i64 n, .int .i64 m] w fun en w' => en = .returned (.int .i64 (n % m)) ∧ w = w' := by
 have hb := tmod_bd n m (by omega)
 have hm : Hid ((Int.tmod n m + m) % m = n % m) := mod_walk2 n m (by omega)
 obtain ⟨hb1, hb2⟩ := hb
 go_enter Try.func77, Try.ntmps77
 go_wp2
 go_ret
 exact ⟨ret_i64 hm.out, rfl⟩
set_option maxHeartbeats 400000 in
theorem rAt_any (x s e : Int) (w : World) (h1 : 1 ≤ s) (h2 : s ≤ 256) :
 Calls Try.prog 47 #[.int .i64 x, .int .i64 s, .int .i64 e] w fun en w' => en = .returned (.int .i64 (atF x s e)) ∧ w = w' := by
 by_cases hx : 0 ≤ x ∧ x < s
 ·have hV : atF x s e = x := by unfold atF; rw [if_pos hx]
  obtain ⟨hx1, hx2⟩ := hx
  rw [hV]
  clear hV
  go_enter Try.func47, Try.ntmps47
  go_wp2
  go_ret
  exact ⟨rfl, rfl⟩
 ·by_cases e1 : e = 1
  ·subst e1
   have hV : atF x s 1 = x % s := by unfold atF; rw [if_neg hx, if_pos rfl]
   rw [hV]
   clear hV
   go_enter Try.func47, Try.ntmps47
   go_wp2_with (go_at_call 77
                refine (rMod_any x s _ (by omega) (by omega)).mono ?_
                rintro en w' ⟨rfl, rfl⟩)
   all_goals first | (go_ret; exact ⟨rfl, rfl⟩) | (exfalso; omega)
  ·by_cases e2 : e = 2
   ·subst e2
    have hV : atF x s 2 = foldF x s := by unfold atF; rw [if_neg hx, if_neg (by omega), if_pos rfl]
    have hb := mod_bd x (2 * s) (by omega)
    obtain ⟨hb1, hb2⟩ := hb
    rw [hV]
    clear hV
    go_enter Try.func47, Try.ntmps47
    go_wp2_with (go_at_call 77
                 refine (rMod_any x (2 * s) _ (by omega) (by omega)).mono ?_
                 rintro en w' ⟨rfl, rfl⟩
                 generalize hk : x % (2 * s) = k at hb1 hb2 ⊢
                 have HK : Hid (x % (2 * s) = k) := hk
                 clear hk)
    all_goals (go_ret; refine ⟨ret_i64 ?_, rfl⟩; unfold foldF; rw [HK.out]; split <;> omega)
   ·have hV : atF x s e = -1 := by unfold atF; rw [if_neg hx, if_neg e1, if_neg e2]
    rw [hV]
    clear hV
    go_enter Try.func47, Try.ntmps47
    go_wp2
    all_goals first | (go_ret; exact ⟨rfl, rfl⟩) | (exfalso; omega)
end Go.Proofs.Ytiemhbogbaamlaa

/-
 A part.
-/
namespace Go.Proofs.Ytiemhbogbaamlaa
open Go.RowKit
set_option linter.unusedSimpArgs false
set_option linter.unusedVariables false
theorem int_infog : (Try.prog.info? 3).map (fun i => (i.zero, i.size, i.bytes)) = some (some (.int .i64 0), 1, 8) := by kernel_rfl
theorem ints_zeros (n : Nat) : ints (zeros n) = List.replicate n (.int .i64 0) := by simp [ints, zeros]
def GPost (r : Grd) (k : Int) (w : World) (e : Ending) (w' : World) : Prop :=
 ∃ (A : Option Addr) (n c : Nat), e = .returned (.tuple #[.agg #[.int .i64 r.w, .int .i64 r.h, .int .i64 r.edge, .slice A n c], .int .i64 k]) ∧ GAt w' r A n ∧ Below w.heap.size w w'
def NewOr (A : Option Addr) (n b B : Nat) : Prop := ∀ ad, A = some ad → 0 < n → ad.block < b ∨ B ≤ ad.block
theorem NewOr.mono {A : Option Addr} {n b B b' B' : Nat} (h : NewOr A n b B) (h1 : b ≤ b') (h2 : B' ≤ B) : NewOr A n b' B' := fun ad e hn => (h ad e hn).imp (fun h => by omega) (fun h => by omega)
theorem NewOr.none {n b B : Nat} : NewOr none n b B := fun ad e => by cases e
theorem Rd.newOr {w : World} {B sz n c : Nat} {A : Option Addr} {xs : List Value} (h : Rd w B sz A n xs) : NewOr A n B c := fun ad e hn => by
 obtain ⟨a', e', hb', _⟩ := h.2 hn
 rw [e] at e'
 cases e'
 exact .inl hb'
theorem own_newOr {w : World} {base sz n m c : Nat} {e : TypeId} {A : Option Addr} {xs : List Value} (h : w.ownsRow base e sz (.slice A m c) n xs) (b : Nat) (hm : m = n) : NewOr A m b base := fun ad e hn => by
 rcases h.2 with h2 | ⟨g, cap, cur, h2, h3, _⟩
 ·simp only [Value.slice.injEq] at h2
  rw [h2.1.1] at e
  cases e
 ·simp only [Value.slice.injEq] at h2
  rw [h2.1] at e
  cases e
  exact .inr h3
theorem GAt.farSet {W : World} {g : Grd} {A : Option Addr} {n b B : Nat} (h : GAt W g A n) (ho : NewOr A n b B) {p : Addr} (h1 : b ≤ p.block) (h2 : p.block < B) (u : Value) : GAt (W.setCell p u) g A n :=
 ⟨⟨h.cells.1, fun hn => let ⟨a, e, hb, hc⟩ := h.cells.2 hn; ⟨a, e, by rw [World.size_setCell]; exact hb, fun j v hv => by
  rw [← hc j v hv]
  have hne : (a.add j).block ≠ p.block := by
   rw [show (a.add j).block = a.block by unfold Addr.add; split <;> rfl]
   have := ho a e hn
   omega
  unfold World.cell?
  rw [Below.heap_setCell W p u _ hne]⟩⟩, h.c63⟩
end Go.Proofs.Ytiemhbogbaamlaa

/-
 A part.
-/
namespace Go.Proofs.Ytiemhbogbaamlaa
open Go.RowKit
set_option linter.unusedSimpArgs false
set_option linter.unusedVariables false
def NewPost (a b e : Int) (w : World) (en : Ending) (w' : World) : Prop :=
 (sizedF a b e = false ∧ en = .returned (.tuple #[.agg #[.int .i64 0, .int .i64 0, .int .i64 0, .slice none 0 0], .int .i64 2]) ∧ Below w.heap.size w w') ∨
 (sizedF a b e = true ∧ ∃ g, en = .returned (.tuple #[.agg #[.int .i64 a, .int .i64 b, .int .i64 e, .slice (some ⟨g, 0, none⟩) (a * b).toNat (a * b).toNat], .int .i64 0]) ∧ Row w' g 3 (ints (zeros (a * b).toNat)) ∧ w.heap.size ≤ g ∧ Below w.heap.size w w')
set_option maxHeartbeats 1000000 in
theorem gNew_any (a b e : Int) (w : World) : Calls Try.prog 46 #[.int .i64 a, .int .i64 b, .int .i64 e] w (NewPost a b e w) := by
 cases hs : sizedF a b e
 ·go_enter Try.func46, Try.ntmps46
  go_wp2_with fail
  refine (sized_any a b e _).mono ?_
  rw [hs]
  rintro en w1 ⟨rfl, rfl⟩
  go_wp2
  exact bodyPost_ret (v := .tuple #[.agg #[.int .i64 0, .int .i64 0, .int .i64 0, .slice none 0 0], .int .i64 2]) (by simp [results, Try.results46, go_sem]) rfl (.inl ⟨hs, rfl, by go_grown⟩)
 ·obtain ⟨⟨q1, q2⟩, ⟨h1, h2⟩, hm', he1, he2⟩ := sizedF_parts hs
  obtain ⟨p1, p2⟩ := prod_bd ⟨q1, q2⟩ ⟨h1, h2⟩
  obtain ⟨n, hn⟩ : ∃ n : Nat, a * b = n := ⟨(a * b).toNat, by omega⟩
  have HN : Hid ((a * b).toNat = n) := by show _ = _; omega
  have hmk := fun W => make_like (P := Try.prog) Try.underlying35 int_infog rfl n (a * b) hn (by omega) (by omega) W
  clear hn
  go_enter Try.func46, Try.ntmps46
  go_wp2_with fail
  refine (sized_any a b e _).mono ?_
  rw [hs]
  rintro en w1 ⟨rfl, rfl⟩
  go_wp2
  refine bodyPost_ret (v := .tuple #[.agg #[.int .i64 a, .int .i64 b, .int .i64 e, .slice (some ⟨w.heap.size + 1, 0, none⟩) n n], .int .i64 0]) (by simp [results, Try.results46, go_sem]) rfl (.inr ⟨hs, w.heap.size + 1, by rw [HN.out], ?_, by omega, by go_grown⟩)
  rw [HN.out, ints_zeros]
  exact rowNew1 w _ 3 (List.replicate n (.int .i64 0))
end Go.Proofs.Ytiemhbogbaamlaa
