/-
 A part.
-/
import Derived.Test.YtiemhbogbaamlaaYE1
import Derived.Test.YtiemhbogbaamlaaYE23
import Derived.Test.YtiemhbogbaamlaaYE24
namespace Go.Proofs.Ytiemhbogbaamlaa
open Go.RowKit
set_option linter.unusedSimpArgs false
set_option linter.unusedVariables false
theorem bump_at (l : List Int) (i j : Nat) : (bump l i).getD j 0 = if i = j ∧ j < l.length then l.getD i 0 + 1 else l.getD j 0 := by
 unfold bump
 rw [List.getD_eq_getElem?_getD, List.getElem?_set]
 by_cases h : i = j
 ·subst h
  by_cases h2 : i < l.length
  ·simp [h2]
  ·simp [h2]
 ·simp [h]
theorem count_at (N : Nat) (cs : List Int) (j : Nat) (hj : j < N) (k : Nat) (hk : k ≤ cs.length) : 0 ≤ (countTo N cs k).getD j 0 ∧ (0 < (countTo N cs k).getD j 0 ↔ ∃ i, i < k ∧ (cs.getD i 0).toNat = j) := by
 induction k with
 | zero =>
  rw [countTo_zero]
  have : (zeros N).getD j 0 = 0 := by unfold zeros; rw [List.getD_eq_getElem?_getD, List.getElem?_replicate]; split <;> rfl
  rw [this]
  exact ⟨Int.le_refl _, ⟨fun h => absurd h (by decide), fun ⟨i, h, _⟩ => absurd h (Nat.not_lt_zero _)⟩⟩
 | succ k ih =>
  obtain ⟨h0, h1⟩ := ih (by omega)
  rw [countTo_snoc _ _ _ (by omega), bump_at, countTo_length]
  by_cases e : (cs.getD k 0).toNat = j
  ·rw [if_pos ⟨e, hj⟩, e]
   exact ⟨by omega, ⟨fun _ => ⟨k, by omega, e⟩, fun _ => by omega⟩⟩
  ·rw [if_neg (fun h => e h.1)]
   refine ⟨h0, h1.trans ⟨fun ⟨i, hi, he⟩ => ⟨i, by omega, he⟩, fun ⟨i, hi, he⟩ => ?_⟩⟩
   rcases Nat.lt_or_ge i k with h2 | h2
   ·exact ⟨i, h2, he⟩
   ·obtain rfl : i = k := by omega
    exact absurd he e
theorem countF_at {p : Pln} (h : rightPl p = true) {j : Nat} (hj : j < (countF p).length) : 0 < (countF p).getD j 0 ↔ ∃ i, i < (cellsP p).length ∧ (cellsP p).getD i 0 = (j : Int) := by
 unfold countF at hj ⊢
 rw [if_pos h] at hj ⊢
 rw [countTo_length] at hj
 rw [(count_at _ _ _ hj _ (Nat.le_refl _)).2]
 constructor
 ·rintro ⟨i, hi, he⟩
  have := (cellsP_bd p i).1
  exact ⟨i, hi, by omega⟩
 ·rintro ⟨i, hi, he⟩
  exact ⟨i, hi, by omega⟩
theorem count_bad {t : Tre} {p : Pln} (h : rightPl p = true) {j : Nat} (hj : j < (countF p).length) (h1 : t.states ≤ (j : Int)) (h2 : 0 < (countF p).getD j 0) : (cellsP p).all (ltStates t) = false := by
 obtain ⟨i, hi, he⟩ := (countF_at h hj).1 h2
 rw [List.all_eq_false]
 refine ⟨(cellsP p)[i], List.getElem_mem hi, ?_⟩
 have : (cellsP p).getD i 0 = (cellsP p)[i] := by rw [List.getD_eq_getElem?_getD, List.getElem?_eq_getElem hi]; rfl
 unfold ltStates
 rw [decide_eq_true_iff, ← this, he]
 omega
theorem count_good {t : Tre} {p : Pln} (h : rightPl p = true) (hall : ∀ j, j < (countF p).length → t.states ≤ (j : Int) → ¬ 0 < (countF p).getD j 0) : (cellsP p).all (ltStates t) = true := by
 rw [List.all_eq_true]
 intro s hs
 obtain ⟨i, hi, rfl⟩ := List.getElem_of_mem hs
 have e : (cellsP p).getD i 0 = (cellsP p)[i] := by rw [List.getD_eq_getElem?_getD, List.getElem?_eq_getElem hi]; rfl
 have hb := cellsP_bd p i
 unfold ltStates
 rw [decide_eq_true_iff, ← e]
 apply Classical.byContradiction
 intro hn
 have hl : ((cellsP p).getD i 0).toNat < (countF p).length := by
  unfold countF
  rw [if_pos h, countTo_length]
  have h5 : ((2 ^ p.words.length : Nat) : Int) = (2 : Int) ^ p.words.length := by simp
  omega
 exact hall _ hl (by omega) ((countF_at h hl).2 ⟨i, hi, by omega⟩)
set_option maxRecDepth 100000 in
set_option maxHeartbeats 2000000 in
theorem check_nil (p : Pln) (A : Option Addr) (n c : Nat) (w : World) : Calls Try.prog 38 #[.pointer none, .agg #[.int .i64 p.w, .int .i64 p.h, .int .i64 p.edge, .slice A n c]] w fun e w' => e = .returned (.int .i64 1) ∧ Below w.heap.size w w' := by
 go_enter Try.func38, Try.ntmps38
 go_wp2
 go_ret
 exact ⟨rfl, by go_grown⟩
set_option maxRecDepth 100000 in
set_option maxHeartbeats 8000000 in
theorem check_any (b : Nat) (t : Tre) (GA OA PA : Option Addr) (gn gc on oc pn pc : Nat) (p : Pln) (A : Option Addr) (n c : Nat) (sl : List Sl) (w : World) (he : EngAt w b t GA OA PA gn gc on oc pn pc) (hp : PAt w p A n sl) :
 Calls Try.prog 38 #[.pointer (some ⟨b, 0, none⟩), .agg #[.int .i64 p.w, .int .i64 p.h, .int .i64 p.edge, .slice A n c]] w fun e w' => e = .returned (.int .i64 (checkPl t p)) ∧ Below w.heap.size w w' := by
 have HE : Hid (EngAt w b t GA OA PA gn gc on oc pn pc) := he
 have HP : Hid (PAt w p A n sl) := hp
 have RE : Hid (Row w b 75 [.int .i64 (circT t).inputs, .slice GA gn gc, .slice OA on oc, .slice PA pn pc, .int .i64 t.states]) := he.row
 have HWL : Hid (p.words.length = n) := hp.wl
 have hsb := states_bd he.rt
 have HNM : Hid (n ≤ maxLen) := hp.n63
 obtain ⟨nb, hnb⟩ : ∃ nb, bitsF t.states = nb := ⟨_, rfl⟩
 have HNB : Hid (∀ _ : Unit, bitsF t.states = nb) := fun _ => hnb
 clear he hp hnb
 go_enter Try.func38, Try.ntmps38
 go_upto_region 1 with fail
 have RP : Hid (Row (World.alloc w (.cells #[.int .i64 p.w, .int .i64 p.h, .int .i64 p.edge, .slice A n c] 42)) (w.heap.size) 42 [.int .i64 p.w, .int .i64 p.h, .int .i64 p.edge, .slice A n c]) := by
  have h0 := Row.new w 42 [.int .i64 p.w, .int .i64 p.h, .int .i64 p.edge, .slice A n c]
  try simp only [World.size_alloc] at h0
  exact h0
 have hgr9 : Below w.heap.size w (World.alloc w (.cells #[.int .i64 p.w, .int .i64 p.h, .int .i64 p.edge, .slice A n c] 42)) := by go_grown
 have B_w : Hid (Below w.heap.size w (World.alloc w (.cells #[.int .i64 p.w, .int .i64 p.h, .int .i64 p.edge, .slice A n c] 42))) := hgr9
 clear hgr9
 revert RP B_w
 generalize (World.alloc w (.cells #[.int .i64 p.w, .int .i64 p.h, .int .i64 p.edge, .slice A n c] 42)) = wa
 intro RP B_w
 have hu : undef = Value.tuple #[] := rfl
 go_wp2_with fail
 obtain ⟨q, hq⟩ : ∃ q, rightPl p = q := ⟨_, rfl⟩
 have HQ : Hid (∀ _ : Unit, rightPl p = q) := fun _ => hq
 have HRC := plRight_any p A n c sl
 rw [hq] at HRC
 have HRC : Hid (∀ W, PAt W p A n sl → _) := HRC
 clear hq
 cases q
 ·have HCK : Hid (∀ _ : Unit, checkPl t p = 2) := fun _ => by unfold checkPl; rw [if_neg (fun h => by rw [HQ.out ()] at h; exact absurd h.1 (by decide))]
  refine wp_region_L (fun w' => Row w' (w.heap.size) 42 [.int .i64 p.w, .int .i64 p.h, .int .i64 p.edge, .slice A n c] ∧ Row w' (b) 75 [.int .i64 (circT t).inputs, .slice GA gn gc, .slice OA on oc, .slice PA pn pc, .int .i64 t.states]) [] (by kernel_rfl) (by exact ⟨Row.drew RP.out, Row.drew (rowCells RE.out B_w.out)⟩) (fun hHeld => ?_)
  have B_w : Hid (Below w.heap.size w (World.drew wa)) := B_w.out.drew
  have B_wa : Hid (Below wa.heap.size wa (World.drew wa)) := (Below.refl _ _).drew
  revert hHeld B_w B_wa
  generalize World.drew wa = waq
  intro hHeld B_w B_wa
  refine lTakeW 0 ?va1 [] rfl (by rfl) ?ya1 hHeld ?ra1
  case ya1 =>
   intro w' hSw
   obtain ⟨s0, s1⟩ := hSw
   have hT0 : Hid (Row w' (w.heap.size) 42 [.int .i64 p.w, .int .i64 p.h, .int .i64 p.edge, .slice A n c]) := s0
   obtain ⟨z0_0, z0_1, z0_2, z0_3, z0_l⟩ := hT0.out.cells4
   have hT1 : Hid (Row w' (b) 75 [.int .i64 (circT t).inputs, .slice GA gn gc, .slice OA on oc, .slice PA pn pc, .int .i64 t.states]) := s1
   obtain ⟨z1_0, z1_1, z1_2, z1_3, z1_4, z1_l⟩ := hT1.out.cells5
   clear s0 s1
   go_simp
   try (with_reducible rfl)
  go_simp
  refine restL_one (i := 1) (by kernel_rfl) rfl (fun K hK => ?_)
  go_simp
  go_at_call 45
  have HC := HRC.out waq (HP.out.up B_w.out)
  refine HC.mono ?_
  clear HC
  rintro e y1 ⟨rfl, hb⟩
  clear hHeld
  have B_w : Hid (Below w.heap.size w y1) := below_on2 B_w.out hb
  have B_wa : Hid (Below wa.heap.size wa y1) := below_on2 B_wa.out hb
  have B_waq : Hid (Below waq.heap.size waq y1) := hb
  clear hb
  refine hK.out _ _ (fun _ => ?keep) (fun hHeld => ?_)
  case keep => exact ⟨(rowCells RP.out B_wa.out), (rowCells RE.out B_w.out)⟩
  have hHeld := hHeld rfl
  clear hK K
  try go_simp
  refine lPureW 2 ?va2 rfl (by rfl) ?ya2 ?ra2
  case ya2 => intro w' hSw; clear hSw; go_simp; try (with_reducible rfl)
  go_simp
  refine lPureW 3 ?va3 rfl (by rfl) ?ya3 ?ra3
  case ya3 => intro w' hSw; clear hSw; go_simp; try (with_reducible rfl)
  go_simp
  refine lPureU 4 rfl (by go_simp) ?_
  go_simp
  refine lPureU 7 rfl (by go_simp) ?_
  go_simp
  refine lPureU 8 rfl (by go_simp) ?_
  go_simp
  refine lPureU 9 rfl (by go_simp) ?_
  go_simp
  refine lTakeU 5 [] rfl (by go_simp) hHeld ?_
  go_simp
  refine lTakeU 6 [] rfl (by go_simp) hHeld ?_
  go_simp
  refine lTakeU 10 [] rfl (by go_simp) hHeld ?_
  go_simp
  refine lTakeU 11 [] rfl (by go_simp) hHeld ?_
  go_simp
  refine lPureU 12 rfl (by go_simp) ?_
  go_simp
  refine lPureW 13 ?va13 rfl (by rfl) ?ya13 ?ra13
  case ya13 => intro w' hSw; clear hSw; go_simp; try (with_reducible rfl)
  go_simp
  refine restL_done (by kernel_rfl) ?_ _
  go_wp2_with fail
  go_ret
  exact ⟨ret_i64 (HCK.out ()).symm, B_w.out⟩
 by_cases hnn : n = nb
 ·subst hnn
  refine wp_region_L (fun w' => Row w' (w.heap.size) 42 [.int .i64 p.w, .int .i64 p.h, .int .i64 p.edge, .slice A n c] ∧ Row w' (b) 75 [.int .i64 (circT t).inputs, .slice GA gn gc, .slice OA on oc, .slice PA pn pc, .int .i64 t.states]) [] (by kernel_rfl) (by exact ⟨Row.drew RP.out, Row.drew (rowCells RE.out B_w.out)⟩) (fun hHeld => ?_)
  have B_w : Hid (Below w.heap.size w (World.drew wa)) := B_w.out.drew
  have B_wa : Hid (Below wa.heap.size wa (World.drew wa)) := (Below.refl _ _).drew
  revert hHeld B_w B_wa
  generalize World.drew wa = waq
  intro hHeld B_w B_wa
  refine lTakeW 0 ?vb1 [] rfl (by rfl) ?yb1 hHeld ?rb1
  case yb1 =>
   intro w' hSw
   obtain ⟨s0, s1⟩ := hSw
   have hT0 : Hid (Row w' (w.heap.size) 42 [.int .i64 p.w, .int .i64 p.h, .int .i64 p.edge, .slice A n c]) := s0
   obtain ⟨z0_0, z0_1, z0_2, z0_3, z0_l⟩ := hT0.out.cells4
   have hT1 : Hid (Row w' (b) 75 [.int .i64 (circT t).inputs, .slice GA gn gc, .slice OA on oc, .slice PA pn pc, .int .i64 t.states]) := s1
   obtain ⟨z1_0, z1_1, z1_2, z1_3, z1_4, z1_l⟩ := hT1.out.cells5
   clear s0 s1
   go_simp
   try (with_reducible rfl)
  go_simp
  refine restL_one (i := 1) (by kernel_rfl) rfl (fun K hK => ?_)
  go_simp
  go_at_call 45
  have HC := HRC.out waq (HP.out.up B_w.out)
  refine HC.mono ?_
  clear HC
  rintro e y1 ⟨rfl, hb⟩
  clear hHeld
  have B_w : Hid (Below w.heap.size w y1) := below_on2 B_w.out hb
  have B_wa : Hid (Below wa.heap.size wa y1) := below_on2 B_wa.out hb
  have B_waq : Hid (Below waq.heap.size waq y1) := hb
  clear hb
  refine hK.out _ _ (fun _ => ?keep) (fun hHeld => ?_)
  case keep => exact ⟨(rowCells RP.out B_wa.out), (rowCells RE.out B_w.out)⟩
  have hHeld := hHeld rfl
  clear hK K
  try go_simp
  refine lPureW 2 ?vb2 rfl (by rfl) ?yb2 ?rb2
  case yb2 => intro w' hSw; clear hSw; go_simp; try (with_reducible rfl)
  go_simp
  refine lPureW 3 ?vb3 rfl (by rfl) ?yb3 ?rb3
  case yb3 => intro w' hSw; clear hSw; go_simp; try (with_reducible rfl)
  go_simp
  refine lPureW 4 ?vb4 rfl (by first | rfl | (go_simp; done)) ?yb4 ?rb4
  case yb4 => intro w' hSw; clear hSw; go_simp; try (with_reducible rfl)
  go_simp
  refine lPureW 7 ?vb5 rfl (by first | rfl | (go_simp; done)) ?yb5 ?rb5
  case yb5 => intro w' hSw; clear hSw; go_simp; try (with_reducible rfl)
  go_simp
  refine lPureW 8 ?vb6 rfl (by first | rfl | (go_simp; done)) ?yb6 ?rb6
  case yb6 => intro w' hSw; clear hSw; go_simp; try (with_reducible rfl)
  go_simp
  refine lPureW 9 ?vb7 rfl (by first | rfl | (go_simp; done)) ?yb7 ?rb7
  case yb7 => intro w' hSw; clear hSw; go_simp; try (with_reducible rfl)
  go_simp
  refine lTakeW 5 ?vb8 [] rfl (by first | rfl | (go_simp; done)) ?yb8 hHeld ?rb8
  case yb8 =>
   intro w' hSw
   obtain ⟨s0, s1⟩ := hSw
   have hT0 : Hid (Row w' (w.heap.size) 42 [.int .i64 p.w, .int .i64 p.h, .int .i64 p.edge, .slice A n c]) := s0
   obtain ⟨z0_0, z0_1, z0_2, z0_3, z0_l⟩ := hT0.out.cells4
   have hT1 : Hid (Row w' (b) 75 [.int .i64 (circT t).inputs, .slice GA gn gc, .slice OA on oc, .slice PA pn pc, .int .i64 t.states]) := s1
   obtain ⟨z1_0, z1_1, z1_2, z1_3, z1_4, z1_l⟩ := hT1.out.cells5
   clear s0 s1
   go_simp
   try (with_reducible rfl)
  go_simp
  refine lTakeW 6 ?vb9 [] rfl (by first | rfl | (go_simp; done)) ?yb9 hHeld ?rb9
  case yb9 =>
   intro w' hSw
   obtain ⟨s0, s1⟩ := hSw
   have hT0 : Hid (Row w' (w.heap.size) 42 [.int .i64 p.w, .int .i64 p.h, .int .i64 p.edge, .slice A n c]) := s0
   obtain ⟨z0_0, z0_1, z0_2, z0_3, z0_l⟩ := hT0.out.cells4
   have hT1 : Hid (Row w' (b) 75 [.int .i64 (circT t).inputs, .slice GA gn gc, .slice OA on oc, .slice PA pn pc, .int .i64 t.states]) := s1
   obtain ⟨z1_0, z1_1, z1_2, z1_3, z1_4, z1_l⟩ := hT1.out.cells5
   clear s0 s1
   go_simp
   try (with_reducible rfl)
  go_simp
  refine lTakeW 10 ?vb10 [] rfl (by first | rfl | (go_simp; done)) ?yb10 hHeld ?rb10
  case yb10 =>
   intro w' hSw
   obtain ⟨s0, s1⟩ := hSw
   have hT0 : Hid (Row w' (w.heap.size) 42 [.int .i64 p.w, .int .i64 p.h, .int .i64 p.edge, .slice A n c]) := s0
   obtain ⟨z0_0, z0_1, z0_2, z0_3, z0_l⟩ := hT0.out.cells4
   have hT1 : Hid (Row w' (b) 75 [.int .i64 (circT t).inputs, .slice GA gn gc, .slice OA on oc, .slice PA pn pc, .int .i64 t.states]) := s1
   obtain ⟨z1_0, z1_1, z1_2, z1_3, z1_4, z1_l⟩ := hT1.out.cells5
   clear s0 s1
   go_simp
   try (with_reducible rfl)
  go_simp
  refine restL_one (i := 11) (by kernel_rfl) rfl (fun K hK => ?_)
  go_simp
  go_at_call 50
  have HC := lBits_any t.states y1
  rw [HNB.out ()] at HC
  refine HC.mono ?_
  clear HC
  rintro e y2 ⟨rfl, hb0⟩
  have hb : Below y1.heap.size y1 y2 := hb0 ▸ Below.refl _ _
  clear hHeld hb0
  have B_w : Hid (Below w.heap.size w y2) := below_on2 B_w.out hb
  have B_wa : Hid (Below wa.heap.size wa y2) := below_on2 B_wa.out hb
  have B_waq : Hid (Below waq.heap.size waq y2) := below_on2 B_waq.out hb
  have B_y1 : Hid (Below y1.heap.size y1 y2) := hb
  clear hb
  refine hK.out _ _ (fun _ => ?keep) (fun hHeld => ?_)
  case keep => exact ⟨(rowCells RP.out B_wa.out), (rowCells RE.out B_w.out)⟩
  have hHeld := hHeld rfl
  clear hK K
  try go_simp
  refine lPureW 12 ?vb11 rfl (by first | rfl | (go_simp; done)) ?yb11 ?rb11
  case yb11 => intro w' hSw; clear hSw; go_simp; try (with_reducible rfl)
  go_simp
  refine lPureW 13 ?vb12 rfl (by rfl) ?yb12 ?rb12
  case yb12 => intro w' hSw; clear hSw; go_simp; try (with_reducible rfl)
  go_simp
  refine restL_done (by kernel_rfl) ?_ _
  have kR : Hid (Row y2 (w.heap.size) 42 [.int .i64 p.w, .int .i64 p.h, .int .i64 p.edge, .slice A n c]) := (rowCells RP.out B_wa.out)
  obtain ⟨k0, k1, k2, k3, kl⟩ := kR.out.cells4
  clear kR
  go_wp2_with fail
  have HC := plCount_any p A n c sl y2 (HP.out.up B_w.out)
  unfold IntsPost at HC
  refine HC.mono ?_
  clear HC
  rintro e u0 ⟨CA, cn, cc, rfl, hcd, hcm, hb⟩
  have HCD : Hid (Rd u0 u0.heap.size 1 CA cn (ints (countF p))) := hcd
  have HCL : Hid (∀ _ : Unit, (countF p).length = cn) := fun _ => by have := HCD.out.1; simp at this; omega
  unfold maxLen at hcm
  clear hcd
  have B_w : Hid (Below w.heap.size w u0) := below_on2 B_w.out hb
  have B_wa : Hid (Below wa.heap.size wa u0) := below_on2 B_wa.out hb
  have B_waq : Hid (Below waq.heap.size waq u0) := below_on2 B_waq.out hb
  have B_y1 : Hid (Below y1.heap.size y1 u0) := below_on2 B_y1.out hb
  have B_y2 : Hid (Below y2.heap.size y2 u0) := hb
  clear k0 k1 k2 k3 kl
  clear hb
  have REu : Hid (Row u0 b 75 [.int .i64 (circT t).inputs, .slice GA gn gc, .slice OA on oc, .slice PA pn pc, .int .i64 t.states]) := (rowCells RE.out B_w.out)
  go_wp2_with fail
  go_loopg [5, 6, 26] cn (fun gg _ _ s26 wr => ∃ k : Nat, k ≤ cn ∧ cn - k ≤ gg ∧ s26 = .int .i64 k ∧ Aside (Below u0.heap.size u0 wr) ∧ Aside (∀ j : Nat, j < k → t.states ≤ (j : Int) → ¬ 0 < (countF p).getD j 0))
  case atStart => exact ⟨0, Nat.zero_le _, by omega, rfl, Below.refl _ _, fun j hj => absurd hj (Nat.not_lt_zero _)⟩
  case round =>
   obtain ⟨k, hk, hgg, rfl, BX, HAL⟩ := hrel
   have BWr : Hid (Below w.heap.size w wr) := below_on2 B_w.out BX.out
   by_cases hlt : k < cn
   ·have hlz : (k : Int) < (cn : Int) := by omega
    obtain ⟨ad, rfl, hab, c0⟩ := (HCD.out.up BX.out).int hlt
    have HBD : Hid (t.states ≤ (k : Int) → 0 < (countF p).getD k 0 → checkPl t p = 10) := fun h1 h2 => by
     unfold checkPl
     rw [if_pos ⟨HQ.out (), by rw [HWL.out, HNB.out ()]⟩, count_bad (HQ.out ()) (by rw [HCL.out ()]; exact hlt) h1 h2]; rfl
    have HNX : Hid (¬ (t.states ≤ (k : Int) ∧ 0 < (countF p).getD k 0) → ∀ j : Nat, j < k + 1 → t.states ≤ (j : Int) → ¬ 0 < (countF p).getD j 0) := fun h j hj h1 h2 => by
     rcases Nat.lt_or_ge j k with h3 | h3
     ·exact HAL.out j h3 h1 h2
     ·obtain rfl : j = k := by omega
      exact h ⟨h1, h2⟩
    generalize (countF p).getD k 0 = cv at c0 HBD HNX
    have REr : Hid (Row wr b 75 [.int .i64 (circT t).inputs, .slice GA gn gc, .slice OA on oc, .slice PA pn pc, .int .i64 t.states]) := rowCells REu.out BX.out
    obtain ⟨e0, e1, e2, e3, e4, el⟩ := REr.out.cells5
    by_cases h1 : t.states ≤ (k : Int)
    ·have d1 : decide (t.states ≤ (k : Int)) = true := decide_eq_true h1
     by_cases h2 : 0 < cv
     ·have d2 : decide (0 < cv) = true := decide_eq_true h2
      have HCK : Hid (∀ _ : Unit, checkPl t p = 10) := fun _ => HBD.out h1 h2
      go_wp2_with fail
      go_ret
      exact ⟨ret_i64 (HCK.out ()).symm, BWr.out⟩
     ·have d2 : decide (0 < cv) = false := decide_eq_false h2
      go_wp2_with fail
      go_roundg (cn - (k + 1))
      case measure => omega
      case rel => exact ⟨k + 1, by omega, by omega, by go_num, BX.out, HNX.out (fun h => absurd h.2 (by omega))⟩
    ·have d1 : decide (t.states ≤ (k : Int)) = false := decide_eq_false h1
     go_wp2_with fail
     go_roundg (cn - (k + 1))
     case measure => omega
     case rel => exact ⟨k + 1, by omega, by omega, by go_num, BX.out, HNX.out (fun h => absurd h.1 (by omega))⟩
   ·have hlz : ¬ (k : Int) < (cn : Int) := by omega
    obtain rfl : cn = k := by omega
    have HCK : Hid (∀ _ : Unit, checkPl t p = 0) := fun _ => by
     unfold checkPl
     rw [if_pos ⟨HQ.out (), by rw [HWL.out, HNB.out ()]⟩, if_pos (count_good (HQ.out ()) (fun j hj => HAL.out j (by rw [HCL.out ()] at hj; exact hj)))]
    go_wp2_with fail
    go_ret
    exact ⟨ret_i64 (HCK.out ()).symm, BWr.out⟩
 ·have HCK : Hid (∀ _ : Unit, checkPl t p = 2) := fun _ => by unfold checkPl; rw [if_neg (fun h => hnn (by rw [← HWL.out, h.2, HNB.out ()]))]
  have n0 : decide ((n : Int) = (nb : Int)) = false := decide_eq_false (by omega)
  have n1 : ((n : Int) == (nb : Int)) = false := by simp; omega
  have n2 : decide (n = nb) = false := decide_eq_false hnn
  have n3 : (n == nb) = false := by simpa using hnn
  refine wp_region_L (fun w' => Row w' (w.heap.size) 42 [.int .i64 p.w, .int .i64 p.h, .int .i64 p.edge, .slice A n c] ∧ Row w' (b) 75 [.int .i64 (circT t).inputs, .slice GA gn gc, .slice OA on oc, .slice PA pn pc, .int .i64 t.states]) [] (by kernel_rfl) (by exact ⟨Row.drew RP.out, Row.drew (rowCells RE.out B_w.out)⟩) (fun hHeld => ?_)
  have B_w : Hid (Below w.heap.size w (World.drew wa)) := B_w.out.drew
  have B_wa : Hid (Below wa.heap.size wa (World.drew wa)) := (Below.refl _ _).drew
  revert hHeld B_w B_wa
  generalize World.drew wa = waq
  intro hHeld B_w B_wa
  refine lTakeW 0 ?vc1 [] rfl (by rfl) ?yc1 hHeld ?rc1
  case yc1 =>
   intro w' hSw
   obtain ⟨s0, s1⟩ := hSw
   have hT0 : Hid (Row w' (w.heap.size) 42 [.int .i64 p.w, .int .i64 p.h, .int .i64 p.edge, .slice A n c]) := s0
   obtain ⟨z0_0, z0_1, z0_2, z0_3, z0_l⟩ := hT0.out.cells4
   have hT1 : Hid (Row w' (b) 75 [.int .i64 (circT t).inputs, .slice GA gn gc, .slice OA on oc, .slice PA pn pc, .int .i64 t.states]) := s1
   obtain ⟨z1_0, z1_1, z1_2, z1_3, z1_4, z1_l⟩ := hT1.out.cells5
   clear s0 s1
   go_simp
   try (with_reducible rfl)
  go_simp
  refine restL_one (i := 1) (by kernel_rfl) rfl (fun K hK => ?_)
  go_simp
  go_at_call 45
  have HC := HRC.out waq (HP.out.up B_w.out)
  refine HC.mono ?_
  clear HC
  rintro e y1 ⟨rfl, hb⟩
  clear hHeld
  have B_w : Hid (Below w.heap.size w y1) := below_on2 B_w.out hb
  have B_wa : Hid (Below wa.heap.size wa y1) := below_on2 B_wa.out hb
  have B_waq : Hid (Below waq.heap.size waq y1) := hb
  clear hb
  refine hK.out _ _ (fun _ => ?keep) (fun hHeld => ?_)
  case keep => exact ⟨(rowCells RP.out B_wa.out), (rowCells RE.out B_w.out)⟩
  have hHeld := hHeld rfl
  clear hK K
  try go_simp
  refine lPureW 2 ?vc2 rfl (by rfl) ?yc2 ?rc2
  case yc2 => intro w' hSw; clear hSw; go_simp; try (with_reducible rfl)
  go_simp
  refine lPureW 3 ?vc3 rfl (by rfl) ?yc3 ?rc3
  case yc3 => intro w' hSw; clear hSw; go_simp; try (with_reducible rfl)
  go_simp
  refine lPureW 4 ?vc4 rfl (by first | rfl | (go_simp; done)) ?yc4 ?rc4
  case yc4 => intro w' hSw; clear hSw; go_simp; try (with_reducible rfl)
  go_simp
  refine lPureW 7 ?vc5 rfl (by first | rfl | (go_simp; done)) ?yc5 ?rc5
  case yc5 => intro w' hSw; clear hSw; go_simp; try (with_reducible rfl)
  go_simp
  refine lPureW 8 ?vc6 rfl (by first | rfl | (go_simp; done)) ?yc6 ?rc6
  case yc6 => intro w' hSw; clear hSw; go_simp; try (with_reducible rfl)
  go_simp
  refine lPureW 9 ?vc7 rfl (by first | rfl | (go_simp; done)) ?yc7 ?rc7
  case yc7 => intro w' hSw; clear hSw; go_simp; try (with_reducible rfl)
  go_simp
  refine lTakeW 5 ?vc8 [] rfl (by first | rfl | (go_simp; done)) ?yc8 hHeld ?rc8
  case yc8 =>
   intro w' hSw
   obtain ⟨s0, s1⟩ := hSw
   have hT0 : Hid (Row w' (w.heap.size) 42 [.int .i64 p.w, .int .i64 p.h, .int .i64 p.edge, .slice A n c]) := s0
   obtain ⟨z0_0, z0_1, z0_2, z0_3, z0_l⟩ := hT0.out.cells4
   have hT1 : Hid (Row w' (b) 75 [.int .i64 (circT t).inputs, .slice GA gn gc, .slice OA on oc, .slice PA pn pc, .int .i64 t.states]) := s1
   obtain ⟨z1_0, z1_1, z1_2, z1_3, z1_4, z1_l⟩ := hT1.out.cells5
   clear s0 s1
   go_simp
   try (with_reducible rfl)
  go_simp
  refine lTakeW 6 ?vc9 [] rfl (by first | rfl | (go_simp; done)) ?yc9 hHeld ?rc9
  case yc9 =>
   intro w' hSw
   obtain ⟨s0, s1⟩ := hSw
   have hT0 : Hid (Row w' (w.heap.size) 42 [.int .i64 p.w, .int .i64 p.h, .int .i64 p.edge, .slice A n c]) := s0
   obtain ⟨z0_0, z0_1, z0_2, z0_3, z0_l⟩ := hT0.out.cells4
   have hT1 : Hid (Row w' (b) 75 [.int .i64 (circT t).inputs, .slice GA gn gc, .slice OA on oc, .slice PA pn pc, .int .i64 t.states]) := s1
   obtain ⟨z1_0, z1_1, z1_2, z1_3, z1_4, z1_l⟩ := hT1.out.cells5
   clear s0 s1
   go_simp
   try (with_reducible rfl)
  go_simp
  refine lTakeW 10 ?vc10 [] rfl (by first | rfl | (go_simp; done)) ?yc10 hHeld ?rc10
  case yc10 =>
   intro w' hSw
   obtain ⟨s0, s1⟩ := hSw
   have hT0 : Hid (Row w' (w.heap.size) 42 [.int .i64 p.w, .int .i64 p.h, .int .i64 p.edge, .slice A n c]) := s0
   obtain ⟨z0_0, z0_1, z0_2, z0_3, z0_l⟩ := hT0.out.cells4
   have hT1 : Hid (Row w' (b) 75 [.int .i64 (circT t).inputs, .slice GA gn gc, .slice OA on oc, .slice PA pn pc, .int .i64 t.states]) := s1
   obtain ⟨z1_0, z1_1, z1_2, z1_3, z1_4, z1_l⟩ := hT1.out.cells5
   clear s0 s1
   go_simp
   try (with_reducible rfl)
  go_simp
  refine restL_one (i := 11) (by kernel_rfl) rfl (fun K hK => ?_)
  go_simp
  go_at_call 50
  have HC := lBits_any t.states y1
  rw [HNB.out ()] at HC
  refine HC.mono ?_
  clear HC
  rintro e y2 ⟨rfl, hb0⟩
  have hb : Below y1.heap.size y1 y2 := hb0 ▸ Below.refl _ _
  clear hHeld hb0
  have B_w : Hid (Below w.heap.size w y2) := below_on2 B_w.out hb
  have B_wa : Hid (Below wa.heap.size wa y2) := below_on2 B_wa.out hb
  have B_waq : Hid (Below waq.heap.size waq y2) := below_on2 B_waq.out hb
  have B_y1 : Hid (Below y1.heap.size y1 y2) := hb
  clear hb
  refine hK.out _ _ (fun _ => ?keep) (fun hHeld => ?_)
  case keep => exact ⟨(rowCells RP.out B_wa.out), (rowCells RE.out B_w.out)⟩
  have hHeld := hHeld rfl
  clear hK K
  try go_simp
  refine lPureW 12 ?vc11 rfl (by first | rfl | (go_simp; done)) ?yc11 ?rc11
  case yc11 => intro w' hSw; clear hSw; go_simp; try (with_reducible rfl)
  go_simp
  refine lPureW 13 ?vc12 rfl (by rfl) ?yc12 ?rc12
  case yc12 => intro w' hSw; clear hSw; go_simp; try (with_reducible rfl)
  go_simp
  refine restL_done (by kernel_rfl) ?_ _
  go_wp2_with fail
  go_ret
  exact ⟨ret_i64 (HCK.out ()).symm, B_w.out⟩
end Go.Proofs.Ytiemhbogbaamlaa

