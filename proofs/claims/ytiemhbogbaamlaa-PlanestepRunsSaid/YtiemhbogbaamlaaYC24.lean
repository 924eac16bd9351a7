/-
 A part.
-/
import Derived.Test.YtiemhbogbaamlaaYC2
import Derived.Test.YtiemhbogbaamlaaProg
import Derived.Test.YtiemhbogbaamlaaYC7
import Derived.Laws.CopyOwn
import Derived.Deep.RegionLaw
import Derived.WalkSpells
import Derived.Deep.Light
import Derived.Test.YtiemhbogbaamlaaYC1
import Derived.Test.YtiemhbogbaamlaaYC6
import Derived.Test.YtiemhbogbaamlaaYC17
import Derived.Test.YtiemhbogbaamlaaYC23
import Derived.BigRegion
import Derived.Deep.QuietTactic
import Derived.BigQuiet
namespace Go.Proofs.Ytiemhbogbaamlaa
open Go.RowKit
set_option linter.unusedSimpArgs false
set_option linter.unusedVariables false
theorem pt_info : (Try.prog.info? 73).map (fun i => (i.zero, i.size, i.bytes)) = some (some (.agg #[.int .i64 0, .int .i64 0]), 2, 16) := by kernel_rfl
theorem hoodCells_one (l : List Pt) : ∀ u ∈ hoodCells l, u.oneCell' = true := by
 intro u hu
 simp only [hoodCells, ptCells, List.mem_flatMap, List.mem_cons, List.not_mem_nil, or_false] at hu
 obtain ⟨p, _, rfl | rfl⟩ := hu <;> rfl
set_option maxHeartbeats 400000 in
theorem clone_pts (A : Option Addr) (n c : Nat) (l : List Pt) (w : World) (hr : Rd w w.heap.size 2 A n (hoodCells l)) (hn : n ≤ 20000) :
 Calls Try.prog 32 #[.slice A n c] w fun e w' => ∃ A' c', e = .returned (.slice A' n c') ∧ w'.ownsRow w.heap.size 73 2 (.slice A' n c') n (hoodCells l) ∧ Below w.heap.size w w' := by
 have HR : Hid (Rd w w.heap.size 2 A n (hoodCells l)) := hr
 clear hr
 cases A with
 | none =>
  have h0 : n = 0 := by
   rcases Nat.eq_zero_or_pos n with h | h
   ·exact h
   ·obtain ⟨ad, e, _⟩ := HR.out.ex h; cases e
  subst h0
  have hc : hoodCells l = [] := List.eq_nil_of_length_eq_zero (by have := HR.out.1; simpa using this)
  have HC : Hid (hoodCells l = []) := hc
  clear hc
  have e1 := fun W => Lib.run_eql_slice_nil (P := Try.prog) W 22 73 none 0 c 0 0 Try.underlying22
  go_enter Try.func32, Try.ntmps32
  go_wp2
  go_ret
  refine ⟨none, 0, rfl, ?_, Below.refl _ _⟩
  rw [HC.out]
  exact World.ownsRow_nil _ _ _ _
 | some ad =>
  have e1 := fun W => Lib.run_eql_slice_nil (P := Try.prog) W 22 73 (some ad) n c 0 0 Try.underlying22
  go_enter Try.func32, Try.ntmps32
  go_wp2_with (at_builtin; refine wpList_app rfl (.tmp 5) (.tmp 6) 22 rfl w.heap.size 73 (.agg #[.int .i64 0, .int .i64 0]) 2 16 Try.underlying22 pt_info rfl (by decide) (by decide) (.slice (some ⟨w.heap.size, 0, none⟩) 0 0) 0 [] rfl ?own w.heap.size (some ad) n c (hoodCells l) rfl ?rd (hoodCells_one l) ?hb ?hbase ?_)
  case own => exact Row.own (xs := []) (Row.new _ _ _) (Nat.le_refl _) rfl (by unfold maxLen; omega)
  case rd => exact HR.out.below (show Below w.heap.size w _ by go_grown) (Nat.le_refl _)
  case hb => omega
  case hbase => simp
  intro v' w' hown' hgrow' hat'
  have HB : Aside (Below w.heap.size w w') := (show Below w.heap.size w (w.alloc (.cells #[] 73)) by go_grown).grown hgrow' (by simp) (fun k hk => by simp [Value.ownBlock] at hk; omega)
  have HO : Aside (w'.ownsRow w.heap.size 73 2 v' n (hoodCells l)) := by
   show w'.ownsRow _ _ _ _ _ _
   simpa using hown'
  clear hown' hgrow' hat'
  obtain ⟨A', c', rfl, _⟩ := Rd.own HO.out
  go_wp2
  go_ret
  exact ⟨A', c', rfl, HO.out, HB.out⟩
end Go.Proofs.Ytiemhbogbaamlaa

/-
 A part.
-/
namespace Go.Proofs.Ytiemhbogbaamlaa
open Go.RowKit
set_option linter.unusedSimpArgs false
set_option linter.unusedVariables false
structure EngAt (W : World) (b : Nat) (t : Tre) (GA OA PA : Option Addr) (gn gc on oc pn pc : Nat) : Prop where
 row : Row W b 75 [.int .i64 (circT t).inputs, .slice GA gn gc, .slice OA on oc, .slice PA pn pc, .int .i64 t.states]
 circ : CAt W (circT t) GA OA gn on
 hood : Rd W W.heap.size 2 PA pn (hoodCells t.hood)
 rt : rightT t = true
 few : t.nodes.length ≤ 400
theorem EngAt.up {W W' : World} {b : Nat} {t : Tre} {GA OA PA : Option Addr} {gn gc on oc pn pc : Nat} (h : EngAt W b t GA OA PA gn gc on oc pn pc) (hb : Below W.heap.size W W') : EngAt W' b t GA OA PA gn gc on oc pn pc :=
 ⟨rowCells h.row hb, h.circ.up hb, h.hood.up hb, h.rt, h.few⟩
theorem EngAt.pl {W : World} {b : Nat} {t : Tre} {GA OA PA : Option Addr} {gn gc on oc pn pc : Nat} (h : EngAt W b t GA OA PA gn gc on oc pn pc) : t.hood.length = pn := by
 have := h.hood.1; rw [hoodCells, flat2_length _ (fun _ => rfl)] at this; omega
def EngPost (t : Tre) (w : World) (e : Ending) (w' : World) : Prop :=
 (rightT t = true ∧ ∃ b GA OA PA gn gc on oc pn pc, e = .returned (.tuple #[.pointer (some ⟨b, 0, none⟩), .int .i64 0]) ∧ EngAt w' b t GA OA PA gn gc on oc pn pc ∧ Below w.heap.size w w') ∨
 (rightT t = false ∧ e = .returned (.tuple #[.pointer none, .int .i64 11]) ∧ Below w.heap.size w w')
set_option maxRecDepth 100000 in
set_option maxHeartbeats 8000000 in
theorem new_any (t : Tre) (HA NA : Option Addr) (hn hc nn nc : Nat) (sl : List Sl) (w : World) (h : TAt w t HA NA hn nn sl) (h400 : nn ≤ 400) :
 Calls Try.prog 10 #[.agg #[.int .i64 t.states, .slice HA hn hc, .slice NA nn nc]] w (EngPost t w) := by
 have HT : Hid (TAt w t HA NA hn nn sl) := h
 have HLN : Hid (t.nodes.length = nn) := h.nl
 have HLH : Hid (t.hood.length = hn) := h.hl
 clear h
 go_enter Try.func10, Try.ntmps10
 go_upto_region 1 with fail
 have RT : Hid (Row (World.alloc w (.cells #[.int .i64 t.states, .slice HA hn hc, .slice NA nn nc] 25)) (w.heap.size) 25 [.int .i64 t.states, .slice HA hn hc, .slice NA nn nc]) := by
  have h0 := Row.new w 25 [.int .i64 t.states, .slice HA hn hc, .slice NA nn nc]
  try simp only [World.size_alloc] at h0
  exact h0
 have hgr9 : Below w.heap.size w (World.alloc w (.cells #[.int .i64 t.states, .slice HA hn hc, .slice NA nn nc] 25)) := by go_grown
 have B_w : Hid (Below w.heap.size w (World.alloc w (.cells #[.int .i64 t.states, .slice HA hn hc, .slice NA nn nc] 25))) := hgr9
 clear hgr9
 revert RT B_w
 generalize (World.alloc w (.cells #[.int .i64 t.states, .slice HA hn hc, .slice NA nn nc] 25)) = wa
 intro RT B_w
 have kR : Hid (Row wa (w.heap.size) 25 [.int .i64 t.states, .slice HA hn hc, .slice NA nn nc]) := RT.out
 obtain ⟨k0, k1, k2, kl⟩ := kR.out.cells3
 clear kR
 go_wp2_with fail
 have HC := lower_any t HA NA hn hc nn nc sl wa (HT.out.up B_w.out) h400
 unfold CPost at HC
 obtain ⟨q, hq⟩ : ∃ q, rightT t = q := ⟨_, rfl⟩
 have HQ : Hid (∀ _ : Unit, rightT t = q) := fun _ => hq
 have hle : lowErr t = if q = true then 0 else 11 := by rw [lowErr, hq]
 rw [hle] at HC
 clear hle hq
 refine HC.mono ?_
 clear HC
 rintro e w1 ⟨GA, OA, gn, gc, on, oc, he, hca, hb⟩
 have he2 : e = .returned (.tuple #[.agg #[.int .i64 (lowR t).inputs, .slice GA gn gc, .slice OA on oc], .int .i64 (if q = true then 0 else 11)]) := he
 subst he2
 have HL : Hid (CAt w1 (lowR t) GA OA gn on) := hca
 clear he hca
 have B_w : Hid (Below w.heap.size w w1) := below_on2 B_w.out hb
 have B_wa : Hid (Below wa.heap.size wa w1) := hb
 clear k0 k1 k2 kl
 clear hb
 cases q
 ·have hif : (if false = true then (0 : Int) else 11) = 11 := rfl
  rw [hif]
  go_upto_region 2 with fail
  have RL : Hid (Row (World.alloc w1 (.cells #[.int .i64 (lowR t).inputs, .slice GA gn gc, .slice OA on oc] 37)) (w1.heap.size) 37 [.int .i64 (lowR t).inputs, .slice GA gn gc, .slice OA on oc]) := by
   have h0 := Row.new w1 37 [.int .i64 (lowR t).inputs, .slice GA gn gc, .slice OA on oc]
   try simp only [World.size_alloc] at h0
   exact h0
  have hgr9 : Below w1.heap.size w1 (World.alloc w1 (.cells #[.int .i64 (lowR t).inputs, .slice GA gn gc, .slice OA on oc] 37)) := by go_grown
  have B_w : Hid (Below w.heap.size w (World.alloc w1 (.cells #[.int .i64 (lowR t).inputs, .slice GA gn gc, .slice OA on oc] 37))) := below_on2 B_w.out hgr9
  have B_wa : Hid (Below wa.heap.size wa (World.alloc w1 (.cells #[.int .i64 (lowR t).inputs, .slice GA gn gc, .slice OA on oc] 37))) := below_on2 B_wa.out hgr9
  have B_w1 : Hid (Below w1.heap.size w1 (World.alloc w1 (.cells #[.int .i64 (lowR t).inputs, .slice GA gn gc, .slice OA on oc] 37))) := hgr9
  clear hgr9
  revert RL B_w B_wa B_w1
  generalize (World.alloc w1 (.cells #[.int .i64 (lowR t).inputs, .slice GA gn gc, .slice OA on oc] 37)) = w2
  intro RL B_w B_wa B_w1
  go_wp2_with fail
  go_ret2
  exact .inr ⟨HQ.out (), rfl, B_w.out⟩
 have hif : (if true = true then (0 : Int) else 11) = 0 := rfl
 rw [hif]
 clear hif
 have HR : Hid (rightT t = true) := HQ.out ()
 clear HQ
 go_upto_region 2 with fail
 have RL : Hid (Row (World.alloc w1 (.cells #[.int .i64 (lowR t).inputs, .slice GA gn gc, .slice OA on oc] 37)) (w1.heap.size) 37 [.int .i64 (lowR t).inputs, .slice GA gn gc, .slice OA on oc]) := by
  have h0 := Row.new w1 37 [.int .i64 (lowR t).inputs, .slice GA gn gc, .slice OA on oc]
  try simp only [World.size_alloc] at h0
  exact h0
 have hgr9 : Below w1.heap.size w1 (World.alloc w1 (.cells #[.int .i64 (lowR t).inputs, .slice GA gn gc, .slice OA on oc] 37)) := by go_grown
 have B_w : Hid (Below w.heap.size w (World.alloc w1 (.cells #[.int .i64 (lowR t).inputs, .slice GA gn gc, .slice OA on oc] 37))) := below_on2 B_w.out hgr9
 have B_wa : Hid (Below wa.heap.size wa (World.alloc w1 (.cells #[.int .i64 (lowR t).inputs, .slice GA gn gc, .slice OA on oc] 37))) := below_on2 B_wa.out hgr9
 have B_w1 : Hid (Below w1.heap.size w1 (World.alloc w1 (.cells #[.int .i64 (lowR t).inputs, .slice GA gn gc, .slice OA on oc] 37))) := hgr9
 clear hgr9
 revert RL B_w B_wa B_w1
 generalize (World.alloc w1 (.cells #[.int .i64 (lowR t).inputs, .slice GA gn gc, .slice OA on oc] 37)) = w2
 intro RL B_w B_wa B_w1
 have hh := hood_pos HR.out
 rw [HLH.out] at hh
 have hu : undef = Value.tuple #[] := rfl
 have kR : Hid (Row w2 (w1.heap.size) 37 [.int .i64 (lowR t).inputs, .slice GA gn gc, .slice OA on oc]) := RL.out
 obtain ⟨k0, k1, k2, kl⟩ := kR.out.cells3
 clear kR
 have jR : Hid (Row w2 (w.heap.size) 25 [.int .i64 t.states, .slice HA hn hc, .slice NA nn nc]) := (rowCells RT.out B_wa.out)
 obtain ⟨j0, j1, j2, jl⟩ := jR.out.cells3
 clear jR
 go_wp2_with fail
 refine wp_region_L (fun w' => Row w' (w1.heap.size) 37 [.int .i64 (lowR t).inputs, .slice GA gn gc, .slice OA on oc] ∧ Row w' (w.heap.size) 25 [.int .i64 t.states, .slice HA hn hc, .slice NA nn nc]) [] (by kernel_rfl) (by exact ⟨Row.drew RL.out, Row.drew (rowCells RT.out B_wa.out)⟩) (fun hHeld => ?_)
 have B_w : Hid (Below w.heap.size w (World.drew w2)) := B_w.out.drew
 have B_wa : Hid (Below wa.heap.size wa (World.drew w2)) := B_wa.out.drew
 have B_w1 : Hid (Below w1.heap.size w1 (World.drew w2)) := B_w1.out.drew
 have B_w2 : Hid (Below w2.heap.size w2 (World.drew w2)) := (Below.refl _ _).drew
 clear k0 k1 k2 kl j0 j1 j2 jl
 revert hHeld B_w B_wa B_w1 B_w2
 generalize World.drew w2 = w2q
 intro hHeld B_w B_wa B_w1 B_w2
 refine lPureW 2 ?vn1 rfl (by rfl) ?yn1 ?rn1
 case yn1 => intro w' hSw; clear hSw; go_simp; try (with_reducible rfl)
 go_simp
 refine lPureW 5 ?vn2 rfl (by rfl) ?yn2 ?rn2
 case yn2 => intro w' hSw; clear hSw; go_simp; try (with_reducible rfl)
 go_simp
 refine lTakeW 0 ?vn3 [] rfl (by rfl) ?yn3 hHeld ?rn3
 case yn3 =>
  intro w' hSw
  obtain ⟨s0, s1⟩ := hSw
  have hT0 : Hid (Row w' (w1.heap.size) 37 [.int .i64 (lowR t).inputs, .slice GA gn gc, .slice OA on oc]) := s0
  obtain ⟨z0_0, z0_1, z0_2, z0_l⟩ := hT0.out.cells3
  have hT1 : Hid (Row w' (w.heap.size) 25 [.int .i64 t.states, .slice HA hn hc, .slice NA nn nc]) := s1
  obtain ⟨z1_0, z1_1, z1_2, z1_l⟩ := hT1.out.cells3
  clear s0 s1
  go_simp
  try (with_reducible rfl)
 go_simp
 refine lTakeW 3 ?vn4 [] rfl (by rfl) ?yn4 hHeld ?rn4
 case yn4 =>
  intro w' hSw
  obtain ⟨s0, s1⟩ := hSw
  have hT0 : Hid (Row w' (w1.heap.size) 37 [.int .i64 (lowR t).inputs, .slice GA gn gc, .slice OA on oc]) := s0
  obtain ⟨z0_0, z0_1, z0_2, z0_l⟩ := hT0.out.cells3
  have hT1 : Hid (Row w' (w.heap.size) 25 [.int .i64 t.states, .slice HA hn hc, .slice NA nn nc]) := s1
  obtain ⟨z1_0, z1_1, z1_2, z1_l⟩ := hT1.out.cells3
  clear s0 s1
  go_simp
  try (with_reducible rfl)
 go_simp
 refine lTakeW 6 ?vn5 [] rfl (by rfl) ?yn5 hHeld ?rn5
 case yn5 =>
  intro w' hSw
  obtain ⟨s0, s1⟩ := hSw
  have hT0 : Hid (Row w' (w1.heap.size) 37 [.int .i64 (lowR t).inputs, .slice GA gn gc, .slice OA on oc]) := s0
  obtain ⟨z0_0, z0_1, z0_2, z0_l⟩ := hT0.out.cells3
  have hT1 : Hid (Row w' (w.heap.size) 25 [.int .i64 t.states, .slice HA hn hc, .slice NA nn nc]) := s1
  obtain ⟨z1_0, z1_1, z1_2, z1_l⟩ := hT1.out.cells3
  clear s0 s1
  go_simp
  try (with_reducible rfl)
 go_simp
 refine restL_one (i := 1) (by kernel_rfl) rfl (fun K hK => ?_)
 go_simp
 go_at_call 31
 have HC := all_any (lowR t) GA OA gn gc on oc w2q (HL.out.up B_w1.out)
 refine HC.mono ?_
 clear HC
 rintro e y1 ⟨DA, DB, Dn, Dc, Dm, Dd, he, hca, -, -, hb⟩
 have he2 : e = .returned (.agg #[.int .i64 (allC (lowR t)).inputs, .slice DA Dn Dc, .slice DB Dm Dd]) := he
 subst he2
 have HD : Hid (CAt y1 (allC (lowR t)) DA DB Dn Dm) := hca
 clear he hca hHeld
 have B_w : Hid (Below w.heap.size w y1) := below_on2 B_w.out hb
 have B_wa : Hid (Below wa.heap.size wa y1) := below_on2 B_wa.out hb
 have B_w1 : Hid (Below w1.heap.size w1 y1) := below_on2 B_w1.out hb
 have B_w2 : Hid (Below w2.heap.size w2 y1) := below_on2 B_w2.out hb
 have B_w2q : Hid (Below w2q.heap.size w2q y1) := hb
 clear hb
 refine hK.out _ _ (fun _ => ?keep) (fun hHeld => ?_)
 case keep => exact ⟨(rowCells RL.out B_w2.out), (rowCells RT.out B_wa.out)⟩
 have hHeld := hHeld rfl
 clear hK K
 try go_simp
 refine restL_one (i := 4) (by kernel_rfl) rfl (fun K hK => ?_)
 go_simp
 go_at_call 32
 have HC := clone_pts HA hn hc t.hood y1 (HT.out.up B_w.out).hood (by omega)
 refine HC.mono ?_
 clear HC
 rintro e y2 ⟨PA, pc, rfl, hown, hb⟩
 have HP : Hid (Rd y2 y2.heap.size 2 PA hn (hoodCells t.hood)) := Rd.of_own hown
 clear hown hHeld
 have B_w : Hid (Below w.heap.size w y2) := below_on2 B_w.out hb
 have B_wa : Hid (Below wa.heap.size wa y2) := below_on2 B_wa.out hb
 have B_w1 : Hid (Below w1.heap.size w1 y2) := below_on2 B_w1.out hb
 have B_w2 : Hid (Below w2.heap.size w2 y2) := below_on2 B_w2.out hb
 have B_w2q : Hid (Below w2q.heap.size w2q y2) := below_on2 B_w2q.out hb
 have B_y1 : Hid (Below y1.heap.size y1 y2) := hb
 clear hb
 refine hK.out _ _ (fun _ => ?keep) (fun hHeld => ?_)
 case keep => exact ⟨(rowCells RL.out B_w2.out), (rowCells RT.out B_wa.out)⟩
 have hHeld := hHeld rfl
 clear hK K
 try go_simp
 refine lPureW 7 ?vn6 rfl (by rfl) ?yn6 ?rn6
 case yn6 => intro w' hSw; clear hSw; go_simp; try (with_reducible rfl)
 go_simp
 refine restL_one (i := 8) (by kernel_rfl) rfl (fun K hK => ?_)
 go_simp
 have RE : Hid (Row (World.alloc y2 (.cells #[.int .i64 (allC (lowR t)).inputs, .slice DA Dn Dc, .slice DB Dm Dd, .slice PA hn pc, .int .i64 t.states] 75)) y2.heap.size 75 [.int .i64 (allC (lowR t)).inputs, .slice DA Dn Dc, .slice DB Dm Dd, .slice PA hn pc, .int .i64 t.states]) := Row.new y2 75 [.int .i64 (allC (lowR t)).inputs, .slice DA Dn Dc, .slice DB Dm Dd, .slice PA hn pc, .int .i64 t.states]
 have hb : Below y2.heap.size y2 (World.alloc y2 (.cells #[.int .i64 (allC (lowR t)).inputs, .slice DA Dn Dc, .slice DB Dm Dd, .slice PA hn pc, .int .i64 t.states] 75)) := (Below.refl _ _).alloc (Nat.le_refl _) _
 revert RE hb
 generalize (World.alloc y2 (.cells #[.int .i64 (allC (lowR t)).inputs, .slice DA Dn Dc, .slice DB Dm Dd, .slice PA hn pc, .int .i64 t.states] 75)) = y3
 intro RE hb
 clear hHeld
 have B_w : Hid (Below w.heap.size w y3) := below_on2 B_w.out hb
 have B_wa : Hid (Below wa.heap.size wa y3) := below_on2 B_wa.out hb
 have B_w1 : Hid (Below w1.heap.size w1 y3) := below_on2 B_w1.out hb
 have B_w2 : Hid (Below w2.heap.size w2 y3) := below_on2 B_w2.out hb
 have B_w2q : Hid (Below w2q.heap.size w2q y3) := below_on2 B_w2q.out hb
 have B_y1 : Hid (Below y1.heap.size y1 y3) := below_on2 B_y1.out hb
 have B_y2 : Hid (Below y2.heap.size y2 y3) := hb
 clear hb
 refine hK.out _ _ (fun _ => ?keep) (fun hHeld => ?_)
 case keep => exact ⟨(rowCells RL.out B_w2.out), (rowCells RT.out B_wa.out)⟩
 have hHeld := hHeld rfl
 clear hK K
 try go_simp
 refine lPureW 9 ?vn7 rfl (by rfl) ?yn7 ?rn7
 case yn7 => intro w' hSw; clear hSw; go_simp; try (with_reducible rfl)
 go_simp
 refine lPureW 10 ?vn8 rfl (by rfl) ?yn8 ?rn8
 case yn8 => intro w' hSw; clear hSw; go_simp; try (with_reducible rfl)
 go_simp
 refine restL_done (by kernel_rfl) ?_ _
 go_wp2_with fail
 go_ret2
 exact .inl ⟨HR.out, _, _, _, _, _, _, _, _, _, _, rfl, ⟨RE.out, (HD.out.up B_y1.out), (HP.out.up B_y2.out), HR.out, (by rw [HLN.out]; exact h400)⟩, B_w.out⟩
set_option maxRecDepth 100000 in
set_option maxHeartbeats 2000000 in
theorem circuit_nil (w : World) : Calls Try.prog 13 #[.pointer none] w fun e w' => e = .returned (.agg #[.int .i64 0, .slice none 0 0, .slice none 0 0]) ∧ Below w.heap.size w w' := by
 go_enter Try.func13, Try.ntmps13
 go_upto_region 1 with fail
 have RZ : Hid (Row (World.alloc w (.cells #[.int .i64 0, .slice none 0 0, .slice none 0 0] 37)) (w.heap.size) 37 [.int .i64 0, .slice none 0 0, .slice none 0 0]) := by
  have h0 := Row.new w 37 [.int .i64 0, .slice none 0 0, .slice none 0 0]
  try simp only [World.size_alloc] at h0
  exact h0
 have hgr9 : Below w.heap.size w (World.alloc w (.cells #[.int .i64 0, .slice none 0 0, .slice none 0 0] 37)) := by go_grown
 have B_w : Hid (Below w.heap.size w (World.alloc w (.cells #[.int .i64 0, .slice none 0 0, .slice none 0 0] 37))) := hgr9
 clear hgr9
 revert RZ B_w
 generalize (World.alloc w (.cells #[.int .i64 0, .slice none 0 0, .slice none 0 0] 37)) = wa
 intro RZ B_w
 obtain ⟨z0, z1, z2, zl⟩ := RZ.out.cells3
 have zf0 := RZ.out.frozen 0
 have zf1 := RZ.out.frozen 1
 have zf2 := RZ.out.frozen 2
 go_wp2
 have Z9 : Row (World.setCell (World.setCell (World.setCell wa ⟨w.heap.size, 0, none⟩ (.int .i64 0)) ⟨w.heap.size, 1, none⟩ (.slice none 0 0)) ⟨w.heap.size, 2, none⟩ (.slice none 0 0)) w.heap.size 37 [.int .i64 0, .slice none 0 0, .slice none 0 0] := (Row.set (Row.set (Row.set RZ.out 0 (.int .i64 0)) 1 (.slice none 0 0)) 2 (.slice none 0 0))
 have B9 : Below w.heap.size w (World.setCell (World.setCell (World.setCell wa ⟨w.heap.size, 0, none⟩ (.int .i64 0)) ⟨w.heap.size, 1, none⟩ (.slice none 0 0)) ⟨w.heap.size, 2, none⟩ (.slice none 0 0)) := (Below.setCell (Below.setCell (Below.setCell B_w.out (p := ⟨w.heap.size, 0, none⟩) (Nat.le_refl _) (.int .i64 0)) (p := ⟨w.heap.size, 1, none⟩) (Nat.le_refl _) (.slice none 0 0)) (p := ⟨w.heap.size, 2, none⟩) (Nat.le_refl _) (.slice none 0 0))
 have d0 := Z9.cell 0
 have d1 := Z9.cell 1
 have d2 := Z9.cell 2
 simp only [List.getElem?_cons_zero, List.getElem?_cons_succ] at d0 d1 d2
 clear Z9
 refine bodyPost_ret (v := .agg #[.int .i64 0, .slice none 0 0, .slice none 0 0]) (by simp [results, Try.results13, go_sem, d0, d1, d2]) rfl ?_
 exact ⟨rfl, B9⟩
set_option maxRecDepth 100000 in
set_option maxHeartbeats 2000000 in
theorem circuit_any (b : Nat) (t : Tre) (GA OA PA : Option Addr) (gn gc on oc pn pc : Nat) (w : World) (h : EngAt w b t GA OA PA gn gc on oc pn pc) :
 Calls Try.prog 13 #[.pointer (some ⟨b, 0, none⟩)] w fun e w' => e = .returned (.agg #[.int .i64 (circT t).inputs, .slice GA gn gc, .slice OA on oc]) ∧ Below w.heap.size w w' := by
 have HE : Hid (EngAt w b t GA OA PA gn gc on oc pn pc) := h
 clear h
 go_enter Try.func13, Try.ntmps13
 go_upto_region 1 with fail
 have RZ : Hid (Row (World.alloc w (.cells #[.int .i64 0, .slice none 0 0, .slice none 0 0] 37)) (w.heap.size) 37 [.int .i64 0, .slice none 0 0, .slice none 0 0]) := by
  have h0 := Row.new w 37 [.int .i64 0, .slice none 0 0, .slice none 0 0]
  try simp only [World.size_alloc] at h0
  exact h0
 have hgr9 : Below w.heap.size w (World.alloc w (.cells #[.int .i64 0, .slice none 0 0, .slice none 0 0] 37)) := by go_grown
 have B_w : Hid (Below w.heap.size w (World.alloc w (.cells #[.int .i64 0, .slice none 0 0, .slice none 0 0] 37))) := hgr9
 clear hgr9
 revert RZ B_w
 generalize (World.alloc w (.cells #[.int .i64 0, .slice none 0 0, .slice none 0 0] 37)) = wa
 intro RZ B_w
 have RE : Hid (Row wa b 75 [.int .i64 (circT t).inputs, .slice GA gn gc, .slice OA on oc, .slice PA pn pc, .int .i64 t.states]) := (HE.out.up B_w.out).row
 obtain ⟨k0, k1, k2, k3, k4, kl⟩ := RE.out.cells5
 obtain ⟨z0, z1, z2, zl⟩ := RZ.out.cells3
 have zf0 := RZ.out.frozen 0
 have zf1 := RZ.out.frozen 1
 have zf2 := RZ.out.frozen 2
 go_wp2
 have Z9 : Row (World.setCell (World.setCell (World.setCell wa ⟨w.heap.size, 0, none⟩ (.int .i64 (circT t).inputs)) ⟨w.heap.size, 1, none⟩ (.slice GA gn gc)) ⟨w.heap.size, 2, none⟩ (.slice OA on oc)) w.heap.size 37 [.int .i64 (circT t).inputs, .slice GA gn gc, .slice OA on oc] := (Row.set (Row.set (Row.set RZ.out 0 (.int .i64 (circT t).inputs)) 1 (.slice GA gn gc)) 2 (.slice OA on oc))
 have B9 : Below w.heap.size w (World.setCell (World.setCell (World.setCell wa ⟨w.heap.size, 0, none⟩ (.int .i64 (circT t).inputs)) ⟨w.heap.size, 1, none⟩ (.slice GA gn gc)) ⟨w.heap.size, 2, none⟩ (.slice OA on oc)) := (Below.setCell (Below.setCell (Below.setCell B_w.out (p := ⟨w.heap.size, 0, none⟩) (Nat.le_refl _) (.int .i64 (circT t).inputs)) (p := ⟨w.heap.size, 1, none⟩) (Nat.le_refl _) (.slice GA gn gc)) (p := ⟨w.heap.size, 2, none⟩) (Nat.le_refl _) (.slice OA on oc))
 have d0 := Z9.cell 0
 have d1 := Z9.cell 1
 have d2 := Z9.cell 2
 simp only [List.getElem?_cons_zero, List.getElem?_cons_succ] at d0 d1 d2
 clear Z9
 refine bodyPost_ret (v := .agg #[.int .i64 (circT t).inputs, .slice GA gn gc, .slice OA on oc]) (by simp [results, Try.results13, go_sem, d0, d1, d2]) rfl ?_
 exact ⟨rfl, B9⟩
end Go.Proofs.Ytiemhbogbaamlaa

/-
 A part.
-/
namespace Go.Proofs.Ytiemhbogbaamlaa
open Go.RowKit
set_option linter.unusedSimpArgs false
set_option linter.unusedVariables false
theorem w64s_length (l : List (BitVec 64)) : (w64s l).length = l.length := by simp [w64s]
theorem u_neq (x y : BitVec 64) : ((x.toNat : Int) != (y.toNat : Int)) = (x != y) := by
 cases h : (x != y)
 ·have e : x = y := by simpa using h
  subst e
  simp
 ·have e : x ≠ y := by simpa using h
  rw [bne_iff_ne]
  exact fun h2 => e (BitVec.eq_of_toNat_eq (by omega))
end Go.Proofs.Ytiemhbogbaamlaa

/-
 A part.
-/
namespace Go.Proofs.Ytiemhbogbaamlaa
open Go.RowKit
set_option linter.unusedSimpArgs false
set_option linter.unusedVariables false
def slCells (sl : List Sl) : List Value := sl.map (fun s => Value.slice s.at_ s.len s.cap)
theorem slCells_length (sl : List Sl) : (slCells sl).length = sl.length := by simp [slCells]
theorem slCells_get (sl : List Sl) (k : Nat) (h : k < sl.length) : (slCells sl)[k]? = some (.slice (sl.getD k default).at_ (sl.getD k default).len (sl.getD k default).cap) := by
 simp [slCells, List.getElem?_map, List.getElem?_eq_getElem h, List.getD_eq_getElem?_getD]
structure PAt (w : World) (p : Pln) (A : Option Addr) (n : Nat) (sl : List Sl) : Prop where
 rows : Rd w w.heap.size 1 A n (slCells sl)
 sll : sl.length = p.words.length
 next : ∀ i, i < p.words.length → Rd w w.heap.size 1 (sl.getD i default).at_ (sl.getD i default).len (w64s (p.words.getD i [])) ∧ (sl.getD i default).len ≤ maxLen
 n63 : n ≤ maxLen
 cap : ∀ i, i < p.words.length → (sl.getD i default).len ≤ (sl.getD i default).cap ∧ (sl.getD i default).cap ≤ maxLen
theorem PAt.up {w w' : World} {p : Pln} {A : Option Addr} {n : Nat} {sl : List Sl} (h : PAt w p A n sl) (hb : Below w.heap.size w w') : PAt w' p A n sl :=
 ⟨h.rows.up hb, h.sll, fun i hi => ⟨(h.next i hi).1.up hb, (h.next i hi).2⟩, h.n63, h.cap⟩
theorem PAt.wl {w : World} {p : Pln} {A : Option Addr} {n : Nat} {sl : List Sl} (h : PAt w p A n sl) : p.words.length = n := by
 have h1 := h.rows.1
 have h2 := h.sll
 rw [slCells_length] at h1; omega
theorem PAt.row {w : World} {p : Pln} {A : Option Addr} {n : Nat} {sl : List Sl} (h : PAt w p A n sl) {k : Nat} (hk : k < n) :
 ∃ ad, A = some ad ∧ ad.block < w.heap.size ∧ w.cell? (ad.add k) = some (.slice (sl.getD k default).at_ (sl.getD k default).len (sl.getD k default).cap) ∧
  Rd w w.heap.size 1 (sl.getD k default).at_ (sl.getD k default).len (w64s (p.words.getD k [])) ∧ (sl.getD k default).len ≤ maxLen ∧ (p.words.getD k []).length = (sl.getD k default).len := by
 have hl := h.wl
 have hs := h.sll
 obtain ⟨ad, u, e, hb, hu, hc⟩ := h.rows.get1 hk
 rw [slCells_get sl k (by omega)] at hu
 injection hu with hu
 obtain ⟨h1, h2⟩ := h.next k (by omega)
 refine ⟨ad, e, hb, by rw [hc, hu], h1, h2, ?_⟩
 have := h1.1
 rw [w64s_length, Nat.mul_one] at this
 exact this
theorem noPln_at (w : World) : PAt w noPln none 0 [] := ⟨Rd.empty none, rfl, fun i hi => absurd hi (Nat.not_lt_zero _), by unfold maxLen; omega, fun i hi => absurd hi (Nat.not_lt_zero _)⟩
set_option maxRecDepth 100000 in
set_option maxHeartbeats 2000000 in
theorem rPlSame_any (a b : Pln) (A B : Option Addr) (n c m d : Nat) (sl sm : List Sl) (w : World) (h1 : PAt w a A n sl) (h2 : PAt w b B m sm) :
 Calls Try.prog 18 #[.agg #[.int .i64 a.w, .int .i64 a.h, .int .i64 a.edge, .slice A n c], .agg #[.int .i64 b.w, .int .i64 b.h, .int .i64 b.edge, .slice B m d]] w fun e w' => e = .returned (.bool (samePl a b)) ∧ Below w.heap.size w w' := by
 have H1 : Hid (PAt w a A n sl) := h1
 have H2 : Hid (PAt w b B m sm) := h2
 have LX : Hid (a.words.length = n) := h1.wl
 have LY : Hid (b.words.length = m) := h2.wl
 have hm1 := h1.n63
 have hm2 := h2.n63
 unfold maxLen at hm1 hm2
 clear h1 h2
 by_cases hs : a.w = b.w
 case neg =>
  have HF : Hid (samePl a b = false) := decide_eq_false (fun h => hs h.1)
  have hss : (a.w == b.w) = false := by simpa using hs
  have hst : (a.w != b.w) = true := by simpa using hs
  clear hs
  go_enter Try.func18, Try.ntmps18
  go_wp2
  go_ret
  exact ⟨ret_bool HF.out.symm, by go_grown⟩
 have HS0 : Hid (a.w = b.w) := hs
 have hss0 : (a.w == b.w) = true := by simpa using hs
 have hst0 : (a.w != b.w) = false := by simpa using hs
 clear hs
 by_cases hs : a.h = b.h
 case neg =>
  have HF : Hid (samePl a b = false) := decide_eq_false (fun h => hs h.2.1)
  have hss : (a.h == b.h) = false := by simpa using hs
  have hst : (a.h != b.h) = true := by simpa using hs
  clear hs
  go_enter Try.func18, Try.ntmps18
  go_wp2
  go_ret
  exact ⟨ret_bool HF.out.symm, by go_grown⟩
 have HS1 : Hid (a.h = b.h) := hs
 have hss1 : (a.h == b.h) = true := by simpa using hs
 have hst1 : (a.h != b.h) = false := by simpa using hs
 clear hs
 by_cases hs : a.edge = b.edge
 case neg =>
  have HF : Hid (samePl a b = false) := decide_eq_false (fun h => hs h.2.2.1)
  have hss : (a.edge == b.edge) = false := by simpa using hs
  have hst : (a.edge != b.edge) = true := by simpa using hs
  clear hs
  go_enter Try.func18, Try.ntmps18
  go_wp2
  go_ret
  exact ⟨ret_bool HF.out.symm, by go_grown⟩
 have HS2 : Hid (a.edge = b.edge) := hs
 have hss2 : (a.edge == b.edge) = true := by simpa using hs
 have hst2 : (a.edge != b.edge) = false := by simpa using hs
 clear hs
 by_cases hnm : n = m
 case neg =>
  have HF : Hid (samePl a b = false) := decide_eq_false (fun h => hnm (by rw [← LX.out, ← LY.out, h.2.2.2]))
  have hns : ((n : Int) != (m : Int)) = true := by rw [bne_iff_ne]; omega
  clear hnm
  go_enter Try.func18, Try.ntmps18
  go_wp2
  go_ret
  exact ⟨ret_bool HF.out.symm, by go_grown⟩
 subst hnm
 have hns : ((n : Int) != (n : Int)) = false := by simp
 go_enter Try.func18, Try.ntmps18
 go_wp2
 have RA : Hid (Row (World.alloc (World.alloc w _) _) w.heap.size 42 [.int .i64 a.w, .int .i64 a.h, .int .i64 a.edge, .slice A n c]) := (Row.new w 42 [.int .i64 a.w, .int .i64 a.h, .int .i64 a.edge, .slice A n c]).alloc (.cells #[.int .i64 b.w, .int .i64 b.h, .int .i64 b.edge, .slice B n d] 42)
 have RB : Hid (Row (World.alloc (World.alloc w (.cells #[.int .i64 a.w, .int .i64 a.h, .int .i64 a.edge, .slice A n c] 42)) _) (w.heap.size + 1) 42 [.int .i64 b.w, .int .i64 b.h, .int .i64 b.edge, .slice B n d]) := rowNew1 w _ 42 [.int .i64 b.w, .int .i64 b.h, .int .i64 b.edge, .slice B n d]
 have HB1 : Hid (Below w.heap.size w (World.alloc (World.alloc w (.cells #[.int .i64 a.w, .int .i64 a.h, .int .i64 a.edge, .slice A n c] 42)) (.cells #[.int .i64 b.w, .int .i64 b.h, .int .i64 b.edge, .slice B n d] 42))) := by show Below _ _ _; go_grown
 revert RA RB HB1
 generalize World.alloc (World.alloc w (.cells #[.int .i64 a.w, .int .i64 a.h, .int .i64 a.edge, .slice A n c] 42)) (.cells #[.int .i64 b.w, .int .i64 b.h, .int .i64 b.edge, .slice B n d] 42) = w1
 intro RA RB HB1
 clear hss0 hss1 hss2 hst0 hst1 hst2 hns
 go_loopg [5, 6] n (fun gg s5 _ wr => ∃ kk : Nat, kk ≤ n ∧ n - kk ≤ gg ∧ s5 = .int .i64 kk ∧ Aside (Below w1.heap.size w1 wr) ∧ Aside (∀ j, j < kk → a.words.getD j [] = b.words.getD j []))
 case atStart => exact ⟨0, Nat.zero_le _, by omega, rfl, Below.refl _ _, fun j hj => absurd hj (Nat.not_lt_zero _)⟩
 case round =>
  obtain ⟨kk, hkk, hg, rfl, BW, AA⟩ := hrel
  have RAi : Hid (Row wr _ _ _) := rowCells RA.out BW.out
  have RBi : Hid (Row wr _ _ _) := rowCells RB.out BW.out
  have HBr : Hid (Below w.heap.size w wr) := below_on2 HB1.out BW.out
  obtain ⟨k0, k1, k2, k3, kl⟩ := RAi.out.cells4
  obtain ⟨m0, m1, m2, m3, ml⟩ := RBi.out.cells4
  by_cases hlt : kk < n
  ·have hltz : (kk : Int) < (n : Int) := by omega
   obtain ⟨ad, rfl, hb, h0, hx1, hx2, hx3⟩ := (H1.out.up HBr.out).row hlt
   obtain ⟨ad', rfl, hb', g0, hy1, hy2, hy3⟩ := (H2.out.up HBr.out).row hlt
   have HXA : Hid (∀ w9, Below w.heap.size w w9 → w9.cell? (ad.add kk) = some (.slice (sl.getD kk default).at_ (sl.getD kk default).len (sl.getD kk default).cap) ∧ Rd w9 w9.heap.size 1 (sl.getD kk default).at_ (sl.getD kk default).len (w64s (a.words.getD kk []))) := fun w9 h9 => by
    obtain ⟨ad2, e, _, c1, c2, _⟩ := (H1.out.up h9).row hlt
    cases e
    exact ⟨c1, c2⟩
   have HYA : Hid (∀ w9, Below w.heap.size w w9 → w9.cell? (ad'.add kk) = some (.slice (sm.getD kk default).at_ (sm.getD kk default).len (sm.getD kk default).cap) ∧ Rd w9 w9.heap.size 1 (sm.getD kk default).at_ (sm.getD kk default).len (w64s (b.words.getD kk []))) := fun w9 h9 => by
    obtain ⟨ad2, e, _, c1, c2, _⟩ := (H2.out.up h9).row hlt
    cases e
    exact ⟨c1, c2⟩
   clear hx1 hy1
   generalize hz1 : a.words.getD kk [] = x at HXA hx3
   generalize hz2 : b.words.getD kk [] = y at HYA hy3
   generalize sl.getD kk default = p at h0 HXA hx2 hx3
   generalize sm.getD kk default = q at g0 HYA hy2 hy3
   have HE : Aside (a.words.getD kk [] = x ∧ b.words.getD kk [] = y) := ⟨hz1, hz2⟩
   have HX3 : Hid (x.length = p.len) := hx3
   have HY3 : Hid (y.length = q.len) := hy3
   clear hz1 hz2 hx3 hy3
   obtain ⟨pa, pl, pc⟩ := p
   obtain ⟨qa, ql, qc⟩ := q
   dsimp only at h0 g0 hx2 hy2
   unfold maxLen at hx2 hy2
   by_cases hpq : pl = ql
   case neg =>
    have HF : Hid (samePl a b = false) := decide_eq_false (fun h => hpq (by
     have e := h.2.2.2
     rw [e] at HE
     have e2 := HE.out.1.symm.trans HE.out.2
     have e3 := HX3.out
     have e4 := HY3.out
     rw [e2] at e3
     exact e3.symm.trans e4))
    have hp2 : ((pl : Int) != (ql : Int)) = true := by rw [bne_iff_ne]; omega
    clear hpq
    go_wp2_with fail
    go_quiet (fail)
    go_wp2
    go_ret
    exact ⟨ret_bool HF.out.symm, below_drewN HBr.out _⟩
   subst hpq
   have hp2 : ((pl : Int) != (pl : Int)) = false := by simp
   go_wp2_with fail
   go_quiet (fail)
   go_wp2
   clear h0 g0 k0 k1 k2 k3 kl m0 m1 m2 m3 ml hp2 RAi RBi hb hb'
   have BWo : Hid (Below w1.heap.size w1 wr) := BW.out
   obtain ⟨wo, rfl⟩ : ∃ wo : World, wo = wr := ⟨_, rfl⟩
   go_loopg [6] pl (fun gg s6 wr => ∃ ss : Nat, ss ≤ pl ∧ pl - ss ≤ gg ∧ s6 = .int .i64 ss ∧ Aside (Below w1.heap.size w1 wr) ∧ Aside (∀ j, j < ss → x.getD j 0#64 = y.getD j 0#64))
   case atStart => exact ⟨0, Nat.zero_le _, by omega, rfl, (by first | exact BWo.out | exact below_drewN BWo.out _), fun j hj => absurd hj (Nat.not_lt_zero _)⟩
   case round =>
    clear BWo BW
    obtain ⟨ss, hss, hgs, rfl, BW, AE⟩ := hrel
    have RAi : Hid (Row wr _ _ _) := rowCells RA.out BW.out
    have RBi : Hid (Row wr _ _ _) := rowCells RB.out BW.out
    have HBi : Hid (Below w.heap.size w wr) := below_on2 HB1.out BW.out
    obtain ⟨k0, k1, k2, k3, kl⟩ := RAi.out.cells4
    obtain ⟨m0, m1, m2, m3, ml⟩ := RBi.out.cells4
    obtain ⟨h0, hx1⟩ := HXA.out wr HBi.out
    obtain ⟨g0, hy1⟩ := HYA.out wr HBi.out
    (try dsimp only at h0); (try dsimp only at hx1); (try dsimp only at g0); (try dsimp only at hy1)
    by_cases hlts : ss < pl
    ·have hltsz : (ss : Int) < (pl : Int) := by omega
     obtain ⟨xd, rfl, hxb, hxc⟩ := hx1.word hlts
     obtain ⟨yd, rfl, hyb, hyc⟩ := hy1.word hlts
     clear hx1 hy1
     generalize e1 : x.getD ss 0#64 = u at hxc
     generalize e2 : y.getD ss 0#64 = v at hyc
     have HC : Hid (x.getD ss 0#64 = u ∧ y.getD ss 0#64 = v) := ⟨e1, e2⟩
     clear e1 e2
     have hq := u_neq u v
     unfold w64 at hxc hyc
     cases huv : (u != v)
     all_goals rw [huv] at hq
     ·go_wp2_with fail
      go_quiet (fail)
      go_wp2
      go_roundg (pl - (ss + 1))
      case measure => omega
      case rel =>
       refine ⟨ss + 1, by omega, by omega, by go_num, (show Below _ _ _ from below_drewN BW.out _), (show Aside _ from fun j hj => ?_)⟩
       by_cases e : j = ss
       ·subst e
        rw [HC.out.1, HC.out.2]
        simpa using huv
       ·exact AE.out j (by omega)
     ·have HF : Hid (samePl a b = false) := decide_eq_false (fun h => by
       have e := h.2.2.2
       rw [e] at HE
       have e2 := HE.out.1.symm.trans HE.out.2
       rw [e2] at HC
       have := HC.out.1.symm.trans HC.out.2
       simp [this] at huv)
      go_wp2_with fail
      go_quiet (fail)
      go_wp2
      go_ret
      exact ⟨ret_bool HF.out.symm, below_drewN HBi.out _⟩
    ·have hltsz : ¬ (ss : Int) < (pl : Int) := by omega
     obtain rfl : pl = ss := by omega
     have HXY : Hid (x = y) := (show x = y from list_eq_of_getD (HX3.out.trans HY3.out.symm) 0#64 (fun k hk => AE.out k (by have h9 := HX3.out; (try dsimp only at h9); omega)))
     clear hx1 hy1
     go_wp2
     go_roundg (n - (kk + 1))
     case measure => omega
     case rel =>
      refine ⟨kk + 1, by omega, by omega, by go_num, BW.out, (show Aside _ from fun j hj => ?_)⟩
      by_cases e : j = kk
      ·subst e
       rw [HE.out.1, HE.out.2, HXY.out]
      ·exact AA.out j (by omega)
  ·have hltz : ¬ (kk : Int) < (n : Int) := by omega
   obtain rfl : kk = n := by omega
   go_wp2
   go_ret
   refine ⟨ret_bool ?_, HBr.out⟩
   symm
   exact decide_eq_true ⟨HS0.out, HS1.out, HS2.out, list_eq_of_getD (LX.out.trans LY.out.symm) [] (fun k hk => AA.out k (by rw [LX.out] at hk; exact hk))⟩
end Go.Proofs.Ytiemhbogbaamlaa
