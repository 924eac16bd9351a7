/-
  The laws TreeRight, TreeEval, TreeBuild and TreeSame: what they do.
-/
import Derived.Test.YtjacgoipfmiaiaaTAwake
import Derived.Test.YtjacgoipfmiaiaaTRSame
namespace Go.Proofs.Ytjacgoipfmiaiaa
open Go.RowKit
set_option linter.unusedSimpArgs false
set_option linter.unusedVariables false

set_option maxRecDepth 100000 in
set_option maxHeartbeats 4000000 in
theorem lawTRight_any (t : Tre) (HA NA : Option Addr) (hn hc nn nc : Nat) (sl : List Sl) (w : World) (h : TAt w t HA NA hn nn sl) :
    Calls Try.prog 3 #[.agg #[.int .i64 t.states, .slice HA hn hc, .slice NA nn nc]] w fun e w' => e = .returned (.bool true) ∧ Below w.heap.size w w' := by
  have A0 : Hid (TAt w t HA NA hn nn sl) := h
  clear h
  go_enter Try.func3, Try.ntmps3
  go_wp2_with fail
  refine (fewT_any t HA NA hn hc nn nc sl _ (A0.out.up (by go_grown))).mono ?_
  rintro e w1 ⟨rfl, hb⟩
  have RT : Hid (Row w1 w.heap.size 25 [.int .i64 t.states, .slice HA hn hc, .slice NA nn nc]) := rowCells (Row.new w 25 [.int .i64 t.states, .slice HA hn hc, .slice NA nn nc]) hb
  have HB : Hid (Below w.heap.size w w1) := below_next hb (by go_grown)
  clear hb
  cases hf : fewT t
  · clear RT
    go_wp2_with fail
    refine (awake_any _).mono ?_
    rintro e w9 ⟨rfl, hb⟩
    have HBE : Hid (Below w.heap.size w w9) := below_on HB.out (by go_grown) hb
    clear hb
    go_wp2
    go_ret
    exact ⟨rfl, HBE.out⟩
  clear hf
  have HT : Hid (TAt w1 t HA NA hn nn sl) := A0.out.up HB.out
  have hu : undef = Value.tuple #[] := rfl
  have HN : Hid (Below w1.heap.size w1 w1) := Below.refl _ _
  have HS : ∀ w', Below w1.heap.size w1 w' → w'.cell? ⟨w.heap.size, 0, none⟩ = some (.int .i64 t.states) ∧ w'.cell? ⟨w.heap.size, 1, none⟩ = some (.slice HA hn hc) ∧ w'.cell? ⟨w.heap.size, 2, none⟩ = some (.slice NA nn nc) := fun w' hw => ⟨(rowCells RT.out hw).cell 0, (rowCells RT.out hw).cell 1, (rowCells RT.out hw).cell 2⟩
  have hbox : w.heap.size < w1.heap.size := RT.out.lt
  generalize hrb : rightT t = rb
  have HRB : Hid (rightT t = rb) := hrb
  generalize hqb : quietT t = qb
  have HQB : Hid (quietT t = qb) := hqb
  generalize hzs : sizeT t = zs
  have HZS : Hid (sizeT t = zs) := hzs
  have hrr : (rb == rb) = true := by simp
  have hqq : (qb == qb) = true := by simp
  clear hrb hqb hzs A0
  have C := HS w1 HN.out
  go_wp2_with fail
  clear C RT
  refine wp_region_held_drew (S := fun w' => w'.cell? ⟨w.heap.size, 0, none⟩ = some (.int .i64 t.states) ∧ w'.cell? ⟨w.heap.size, 1, none⟩ = some (.slice HA hn hc) ∧ w'.cell? ⟨w.heap.size, 2, none⟩ = some (.slice NA nn nc)) (by kernel_rfl) (by (try dsimp only); exact HS _ (by first | exact below_on2 HN.out (by go_grown) | go_grown)) (fun hHeld => ?_)
  refine wpAnyH_take (i := 0) (v := ?va1) rfl (by kernel_rfl) (by kernel_rfl) (by kernel_rfl) (fun _ _ _ h => h) (Or.inl ⟨by rfl, ?ya1⟩) (by assumption) ?ra1
  case ya1 => intro w' hSw; (try dsimp only at hSw); go_simp; try (with_reducible rfl)
  go_simp
  refine wpAnyH_take (i := 2) (v := ?va2) rfl (by kernel_rfl) (by kernel_rfl) (by kernel_rfl) (fun _ _ _ h => h) (Or.inl ⟨by rfl, ?ya2⟩) (by assumption) ?ra2
  case ya2 => intro w' hSw; (try dsimp only at hSw); go_simp; try (with_reducible rfl)
  go_simp
  refine wpAnyH_ready (rs := [1]) (by kernel_rfl) (by simp) ?_
  refine AllReadyH.cons rfl (fun K hK => ?_) AllReadyH.nil
  go_simp
  go_at_call 11
  refine (treeRight_any t HA NA hn hc nn nc sl _ (by exact HT.out.up (by first | exact below_on2 HN.out (by go_grown) | go_grown))).mono ?_
  rw [HRB.out]
  rintro e w7 ⟨rfl, hb⟩
  have HN := (show Hid (Below w1.heap.size w1 w7) from below_on HN.out (by go_grown) hb)
  clear hb
  refine hK.out _ _ ?_ (fun hHeld => ?_)
  · (try dsimp only); exact HS _ (by first | exact below_on2 HN.out (by go_grown) | go_grown)
  clear hK K
  try go_simp
  refine wpAnyH_ready (rs := [3]) (by kernel_rfl) (by simp) ?_
  refine AllReadyH.cons rfl (fun K hK => ?_) AllReadyH.nil
  go_simp
  go_at_call 12
  refine (rTreeRight_any t HA NA hn hc nn nc sl _ (by exact HT.out.up (by first | exact below_on2 HN.out (by go_grown) | go_grown))).mono ?_
  rw [HRB.out]
  rintro e w7 ⟨rfl, hb⟩
  have HN := (show Hid (Below w1.heap.size w1 w7) from below_on HN.out (by go_grown) hb)
  clear hb
  refine hK.out _ _ ?_ (fun hHeld => ?_)
  · (try dsimp only); exact HS _ (by first | exact below_on2 HN.out (by go_grown) | go_grown)
  clear hK K
  try go_simp
  refine wpAnyH_take (i := 4) (v := ?va3) rfl (by kernel_rfl) (by kernel_rfl) (by kernel_rfl) (fun _ _ _ h => h) (Or.inl ⟨by rfl, ?ya3⟩) (by assumption) ?ra3
  case ya3 => intro w' hSw; (try dsimp only at hSw); go_simp; try (with_reducible rfl)
  go_simp
  refine wpAnyH_take (i := 5) (v := ?va4) rfl (by kernel_rfl) (by kernel_rfl) (by kernel_rfl) (fun _ _ _ h => h) (Or.inl ⟨by rfl, ?ya4⟩) (by assumption) ?ra4
  case ya4 => intro w' hSw; (try dsimp only at hSw); go_simp; try (with_reducible rfl)
  go_simp
  refine wpAnyH_take (i := 6) (v := ?va5) rfl (by kernel_rfl) (by kernel_rfl) (by kernel_rfl) (fun _ _ _ h => h) (Or.inl ⟨by first | rfl | (go_simp; done), ?ya5⟩) (by assumption) ?ra5
  case ya5 => intro w' hSw; (try dsimp only at hSw); go_simp; try (with_reducible rfl)
  go_simp
  refine wpAnyH_take (i := 8) (v := ?va6) rfl (by kernel_rfl) (by kernel_rfl) (by kernel_rfl) (fun _ _ _ h => h) (Or.inl ⟨by first | rfl | (go_simp; done), ?ya6⟩) (by assumption) ?ra6
  case ya6 => intro w' hSw; (try dsimp only at hSw); go_simp; try (with_reducible rfl)
  go_simp
  refine wpAnyH_ready (rs := [7]) (by kernel_rfl) (by simp) ?_
  refine AllReadyH.cons rfl (fun K hK => ?_) AllReadyH.nil
  go_simp
  go_at_call 13
  refine (tQuiet_any t HA NA hn hc nn nc sl _ (by exact HT.out.up (by first | exact below_on2 HN.out (by go_grown) | go_grown))).mono ?_
  rw [HQB.out]
  rintro e w7 ⟨rfl, hb⟩
  have HN := (show Hid (Below w1.heap.size w1 w7) from below_on HN.out (by go_grown) hb)
  clear hb
  refine hK.out _ _ ?_ (fun hHeld => ?_)
  · (try dsimp only); exact HS _ (by first | exact below_on2 HN.out (by go_grown) | go_grown)
  clear hK K
  try go_simp
  refine wpAnyH_ready (rs := [9]) (by kernel_rfl) (by simp) ?_
  refine AllReadyH.cons rfl (fun K hK => ?_) AllReadyH.nil
  go_simp
  go_at_call 14
  refine (rQuiet_any t HA NA hn hc nn nc sl _ (by exact HT.out.up (by first | exact below_on2 HN.out (by go_grown) | go_grown))).mono ?_
  rw [HQB.out]
  rintro e w7 ⟨rfl, hb⟩
  have HN := (show Hid (Below w1.heap.size w1 w7) from below_on HN.out (by go_grown) hb)
  clear hb
  refine hK.out _ _ ?_ (fun hHeld => ?_)
  · (try dsimp only); exact HS _ (by first | exact below_on2 HN.out (by go_grown) | go_grown)
  clear hK K
  try go_simp
  refine wpAnyH_take (i := 10) (v := ?va7) rfl (by kernel_rfl) (by kernel_rfl) (by kernel_rfl) (fun _ _ _ h => h) (Or.inl ⟨by first | rfl | (go_simp; done), ?ya7⟩) (by assumption) ?ra7
  case ya7 => intro w' hSw; (try dsimp only at hSw); go_simp; try (with_reducible rfl)
  go_simp
  refine wpAnyH_take (i := 11) (v := ?va8) rfl (by kernel_rfl) (by kernel_rfl) (by kernel_rfl) (fun _ _ _ h => h) (Or.inl ⟨by rfl, ?ya8⟩) (by assumption) ?ra8
  case ya8 => intro w' hSw; (try dsimp only at hSw); go_simp; try (with_reducible rfl)
  go_simp
  refine wpAnyH_take (i := 12) (v := ?va9) rfl (by kernel_rfl) (by kernel_rfl) (by kernel_rfl) (fun _ _ _ h => h) (Or.inl ⟨by rfl, ?ya9⟩) (by assumption) ?ra9
  case ya9 => intro w' hSw; (try dsimp only at hSw); go_simp; try (with_reducible rfl)
  go_simp
  refine wpAnyH_take (i := 13) (v := ?va10) rfl (by kernel_rfl) (by kernel_rfl) (by kernel_rfl) (fun _ _ _ h => h) (Or.inl ⟨by first | rfl | (go_simp; done), ?ya10⟩) (by assumption) ?ra10
  case ya10 => intro w' hSw; (try dsimp only at hSw); go_simp; try (with_reducible rfl)
  go_simp
  refine wpAnyH_take (i := 15) (v := ?va11) rfl (by kernel_rfl) (by kernel_rfl) (by kernel_rfl) (fun _ _ _ h => h) (Or.inl ⟨by first | rfl | (go_simp; done), ?ya11⟩) (by assumption) ?ra11
  case ya11 => intro w' hSw; (try dsimp only at hSw); go_simp; try (with_reducible rfl)
  go_simp
  refine wpAnyH_ready (rs := [14]) (by kernel_rfl) (by simp) ?_
  refine AllReadyH.cons rfl (fun K hK => ?_) AllReadyH.nil
  go_simp
  go_at_call 16
  refine (tSize_any t HA NA hn hc nn nc sl _ (by exact HT.out.up (by first | exact below_on2 HN.out (by go_grown) | go_grown))).mono ?_
  rw [HZS.out]
  rintro e w71 ⟨SA, sn, sc, rfl, hs, hsm, hb⟩
  have HN := (show Hid (Below w1.heap.size w1 w71) from below_on HN.out (by go_grown) hb)
  have HI1 : Hid (Rd w71 w71.heap.size 1 SA sn (ints zs)) := hs
  have HM1 : Hid (sn ≤ maxLen) := hsm
  clear hb hs hsm
  refine hK.out _ _ ?_ (fun hHeld => ?_)
  · (try dsimp only); exact HS _ (by first | exact below_on2 HN.out (by go_grown) | go_grown)
  clear hK K
  try go_simp
  refine wpAnyH_ready (rs := [16]) (by kernel_rfl) (by simp) ?_
  refine AllReadyH.cons rfl (fun K hK => ?_) AllReadyH.nil
  go_simp
  go_at_call 17
  refine (rSize_any t HA NA hn hc nn nc sl _ (by exact HT.out.up (by first | exact below_on2 HN.out (by go_grown) | go_grown))).mono ?_
  rw [HZS.out]
  rintro e w72 ⟨SB, sm, sd, rfl, hs, hsm, hb⟩
  have HN := (show Hid (Below w1.heap.size w1 w72) from below_on HN.out (by go_grown) hb)
  have HI2 : Hid (Rd w72 w72.heap.size 1 SB sm (ints zs)) := hs
  have HI1 := (show Hid (Rd w72 _ _ _ _ _) from HI1.out.up (below_next hb (by go_grown)))
  have HM2 : Hid (sm ≤ maxLen) := hsm
  clear hb hs hsm
  refine hK.out _ _ ?_ (fun hHeld => ?_)
  · (try dsimp only); exact HS _ (by first | exact below_on2 HN.out (by go_grown) | go_grown)
  clear hK K
  try go_simp
  refine wpAnyH_ready (rs := [17]) (by kernel_rfl) (by simp) ?_
  refine AllReadyH.cons rfl (fun K hK => ?_) AllReadyH.nil
  go_simp
  go_at_call 15
  refine (lInts_any SA SB sn sm sc sd zs zs _ (by exact HI1.out.up (by go_grown)) (by exact HI2.out.up (by go_grown)) HM1.out HM2.out).mono ?_
  rw [decide_eq_true (rfl : zs = zs)]
  rintro e w7 ⟨rfl, hb⟩
  have HN := (show Hid (Below w1.heap.size w1 w7) from below_on HN.out (by go_grown) hb)
  clear hb
  refine hK.out _ _ ?_ (fun hHeld => ?_)
  · (try dsimp only); exact HS _ (by first | exact below_on2 HN.out (by go_grown) | go_grown)
  clear hK K
  try go_simp
  refine wpAnyH_take (i := 18) (v := ?va12) rfl (by kernel_rfl) (by kernel_rfl) (by kernel_rfl) (fun _ _ _ h => h) (Or.inl ⟨by rfl, ?ya12⟩) (by assumption) ?ra12
  case ya12 => intro w' hSw; (try dsimp only at hSw); go_simp; try (with_reducible rfl)
  go_simp
  refine wpAnyH_take (i := 19) (v := ?va13) rfl (by kernel_rfl) (by kernel_rfl) (by kernel_rfl) (fun _ _ _ h => h) (Or.inl ⟨by rfl, ?ya13⟩) (by assumption) ?ra13
  case ya13 => intro w' hSw; (try dsimp only at hSw); go_simp; try (with_reducible rfl)
  go_simp
  refine wpAnyH_ready (rs := [20]) (by kernel_rfl) (by simp) ?_
  refine AllReadyH.cons rfl (fun K hK => ?_) AllReadyH.nil
  go_simp
  go_at_call 10
  refine (awake_any _).mono ?_
  rintro e w7 ⟨rfl, hb⟩
  have HN := (show Hid (Below w1.heap.size w1 w7) from below_on HN.out (by go_grown) hb)
  clear hb
  refine hK.out _ _ ?_ (fun hHeld => ?_)
  · (try dsimp only); exact HS _ (by first | exact below_on2 HN.out (by go_grown) | go_grown)
  clear hK K
  try go_simp
  refine wpAnyH_take (i := 21) (v := ?va14) rfl (by kernel_rfl) (by kernel_rfl) (by kernel_rfl) (fun _ _ _ h => h) (Or.inl ⟨by rfl, ?ya14⟩) (by assumption) ?ra14
  case ya14 => intro w' hSw; (try dsimp only at hSw); go_simp; try (with_reducible rfl)
  go_simp
  refine wpAnyH_take (i := 22) (v := ?va15) rfl (by kernel_rfl) (by kernel_rfl) (by kernel_rfl) (fun _ _ _ h => h) (Or.inl ⟨by rfl, ?ya15⟩) (by assumption) ?ra15
  case ya15 => intro w' hSw; (try dsimp only at hSw); go_simp; try (with_reducible rfl)
  go_simp
  refine wpAnyH_done (by kernel_rfl) ?_ _
  go_wp2
  go_ret
  exact ⟨rfl, below_on2 HB.out (by first | exact HN.out | exact below_on2 HN.out (by go_grown))⟩

set_option maxRecDepth 100000 in
set_option maxHeartbeats 4000000 in
theorem lawTEval_any (t : Tre) (HA NA IA : Option Addr) (hn hc nn nc n ic : Nat) (sl : List Sl) (ins : List Int) (w : World) (h : TAt w t HA NA hn nn sl) (hI : Rd w w.heap.size 1 IA n (ints ins)) (hm : n ≤ maxLen) :
    Calls Try.prog 4 #[.agg #[.int .i64 t.states, .slice HA hn hc, .slice NA nn nc], .slice IA n ic] w fun e w' => e = .returned (.bool true) ∧ Below w.heap.size w w' := by
  have A0 : Hid (TAt w t HA NA hn nn sl) := h
  have HI : Hid (Rd w w.heap.size 1 IA n (ints ins)) := hI
  have HM : Hid (n ≤ maxLen) := hm
  unfold maxLen at hm
  clear h hI
  go_enter Try.func4, Try.ntmps4
  go_wp2_with fail
  refine (fewT_any t HA NA hn hc nn nc sl _ (A0.out.up (by go_grown))).mono ?_
  rintro e w1 ⟨rfl, hb⟩
  have RT : Hid (Row w1 w.heap.size 25 [.int .i64 t.states, .slice HA hn hc, .slice NA nn nc]) := rowCells (Row.new w 25 [.int .i64 t.states, .slice HA hn hc, .slice NA nn nc]) hb
  have HB : Hid (Below w.heap.size w w1) := below_next hb (by go_grown)
  clear hb
  cases hf : fewT t
  · clear RT
    go_wp2_with fail
    refine (awake_any _).mono ?_
    rintro e w9 ⟨rfl, hb⟩
    have HBE : Hid (Below w.heap.size w w9) := below_on HB.out (by go_grown) hb
    clear hb
    go_wp2
    go_ret
    exact ⟨rfl, HBE.out⟩
  clear hf
  have A := (show Hid (TAt w1 _ _ _ _ _ _) from A0.out.up HB.out)
  have HI := (show Hid (Rd w1 _ _ _ _ _) from HI.out.up HB.out)
  clear A0
  by_cases hn40 : 40 < n
  · clear RT
    go_wp2_with fail
    refine (awake_any _).mono ?_
    rintro e w9 ⟨rfl, hb⟩
    have HBE : Hid (Below w.heap.size w w9) := below_on HB.out (by go_grown) hb
    clear hb
    go_wp2
    go_ret
    exact ⟨rfl, HBE.out⟩
  have k0 := RT.out.cell 0
  have k1 := RT.out.cell 1
  have k2 := RT.out.cell 2
  have kl := RT.out.lt
  simp only [List.getElem?_cons_zero, List.getElem?_cons_succ] at k0 k1 k2
  go_wp2_with fail
  refine (tEval_any t HA NA IA hn hc nn nc n ic sl ins _ A.out HI.out HM.out).mono ?_
  rintro e w2 ⟨rfl, hb⟩
  clear k0 k1 k2 kl
  have hn : Below w1.heap.size w1 w2 := below_next hb (by go_grown)
  have RT := (show Hid (Row _ _ _ _) from rowCells RT.out hn)
  have A := (show Hid (TAt w2 _ _ _ _ _ _) from A.out.up hn)
  have HI := (show Hid (Rd w2 _ _ _ _ _) from HI.out.up hn)
  have HB := (show Hid (Below w.heap.size w w2) from below_on2 HB.out hn)
  clear hb hn
  have k0 := RT.out.cell 0
  have k1 := RT.out.cell 1
  have k2 := RT.out.cell 2
  have kl := RT.out.lt
  simp only [List.getElem?_cons_zero, List.getElem?_cons_succ] at k0 k1 k2
  go_wp2_with fail
  refine (rTEval_any t HA NA IA hn hc nn nc n ic sl ins _ A.out HI.out HM.out).mono ?_
  rintro e w3 ⟨rfl, hb⟩
  clear k0 k1 k2 kl
  have hn : Below w2.heap.size w2 w3 := below_next hb (by go_grown)
  have HB := (show Hid (Below w.heap.size w w3) from below_on2 HB.out hn)
  clear hb hn
  clear RT A HI
  generalize evalV t ins = ev
  generalize evalErr t ins = er
  have h1 : (ev == ev) = true := by simp
  have h2 : (er == er) = true := by simp
  go_wp2_with fail
  refine (awake_any _).mono ?_
  rintro e w9 ⟨rfl, hb⟩
  have HBE : Hid (Below w.heap.size w w9) := below_on HB.out (by go_grown) hb
  clear hb
  go_wp2
  go_ret
  exact ⟨rfl, HBE.out⟩

set_option maxRecDepth 100000 in
set_option maxHeartbeats 4000000 in
theorem lawTBuild_any (st k : Int) (l : List Pt) (LA : Option Addr) (n c : Nat) (w : World) (hr : Rd w w.heap.size 2 LA n (hoodCells l)) (hm : n ≤ maxLen) :
    Calls Try.prog 5 #[.int .i64 st, .slice LA n c, .int .i64 k] w fun e w' => e = .returned (.bool true) ∧ Below w.heap.size w w' := by
  have HR : Hid (Rd w w.heap.size 2 LA n (hoodCells l)) := hr
  have HM : Hid (n ≤ maxLen) := hm
  have HB : Hid (Below w.heap.size w w) := Below.refl _ _
  clear hr
  unfold maxLen at hm
  go_enter Try.func5, Try.ntmps5
  by_cases h40 : 40 < n
  ·
    go_wp2_with fail
    refine (awake_any _).mono ?_
    rintro e w9 ⟨rfl, hb⟩
    have HBE : Hid (Below w.heap.size w w9) := below_on HB.out (by go_grown) hb
    clear hb
    go_wp2
    go_ret
    exact ⟨rfl, HBE.out⟩
  go_wp2_with fail
  refine (tConst_any st k l LA n c _ HR.out HM.out).mono ?_
  rintro e w1 ⟨TA, NA, tn, tc, mn, mc, sl, rfl, ht, hb⟩
  have HT : Hid (TAt w1 (constR st l k) TA NA tn mn sl) := ht
  have HB := (show Hid (Below w.heap.size w w1) from hb)
  clear hb ht
  go_wp2_with fail
  refine (rConst_any st k l LA n c _ (HR.out.up (below_on2 HB.out (by go_grown))) HM.out).mono ?_
  rintro e w2 ⟨UA, MA, un, uc, vn, vc, sm, rfl, hu, hb⟩
  have HU : Hid (TAt w2 (constR st l k) UA MA un vn sm) := hu
  clear hu
  have RT : Hid (Row w2 (w1.heap.size) 25 [.int .i64 (constR st l k).states, .slice TA tn tc, .slice NA mn mc]) := by
    have h0 := Row.new w1 25 [.int .i64 (constR st l k).states, .slice TA tn tc, .slice NA mn mc]
    try simp only [World.size_alloc] at h0
    exact rowCells h0 hb
  have hn : Below w1.heap.size w1 w2 := below_next hb (by go_grown)
  have HT := (show Hid (TAt w2 _ _ _ _ _ _) from HT.out.up hn)
  have HB := (show Hid (Below w.heap.size w w2) from below_on2 HB.out hn)
  clear hb hn
  go_wp2_with fail
  refine (tRead_any st k l LA n c _ (HR.out.up (below_on2 HB.out (by go_grown))) HM.out).mono ?_
  rintro e w3 ⟨XA, YA, xn, xc, yn, yc, sx, rfl, hx, hb⟩
  have HX : Hid (TAt w3 (readR st l k) XA YA xn yn sx) := hx
  clear hx
  have RU : Hid (Row w3 (w2.heap.size) 25 [.int .i64 (constR st l k).states, .slice UA un uc, .slice MA vn vc]) := by
    have h0 := Row.new w2 25 [.int .i64 (constR st l k).states, .slice UA un uc, .slice MA vn vc]
    try simp only [World.size_alloc] at h0
    exact rowCells h0 hb
  have hn : Below w2.heap.size w2 w3 := below_next hb (by go_grown)
  have RT := (show Hid (Row _ _ _ _) from rowCells RT.out hn)
  have HT := (show Hid (TAt w3 _ _ _ _ _ _) from HT.out.up hn)
  have HU := (show Hid (TAt w3 _ _ _ _ _ _) from HU.out.up hn)
  have HB := (show Hid (Below w.heap.size w w3) from below_on2 HB.out hn)
  clear hb hn
  go_wp2_with fail
  refine (rRead_any st k l LA n c _ (HR.out.up (below_on2 HB.out (by go_grown))) HM.out).mono ?_
  rintro e w4 ⟨PA, QA, pn, pc, qn, qc, sy, rfl, hy, hb⟩
  have HY : Hid (TAt w4 (readR st l k) PA QA pn qn sy) := hy
  clear hy
  have RX : Hid (Row w4 (w3.heap.size) 25 [.int .i64 (readR st l k).states, .slice XA xn xc, .slice YA yn yc]) := by
    have h0 := Row.new w3 25 [.int .i64 (readR st l k).states, .slice XA xn xc, .slice YA yn yc]
    try simp only [World.size_alloc] at h0
    exact rowCells h0 hb
  have hn : Below w3.heap.size w3 w4 := below_next hb (by go_grown)
  have RT := (show Hid (Row _ _ _ _) from rowCells RT.out hn)
  have RU := (show Hid (Row _ _ _ _) from rowCells RU.out hn)
  have HT := (show Hid (TAt w4 _ _ _ _ _ _) from HT.out.up hn)
  have HU := (show Hid (TAt w4 _ _ _ _ _ _) from HU.out.up hn)
  have HX := (show Hid (TAt w4 _ _ _ _ _ _) from HX.out.up hn)
  have HB := (show Hid (Below w.heap.size w w4) from below_on2 HB.out hn)
  clear hb hn
  generalize constErr st l k = ce
  generalize readErr st l k = re
  have hce : (ce == ce) = true := by simp
  have hre : (re == re) = true := by simp
  have k0 := RT.out.cell 0
  have k1 := RT.out.cell 1
  have k2 := RT.out.cell 2
  have kl := RT.out.lt
  simp only [List.getElem?_cons_zero, List.getElem?_cons_succ] at k0 k1 k2
  have m0 := RU.out.cell 0
  have m1 := RU.out.cell 1
  have m2 := RU.out.cell 2
  have ml := RU.out.lt
  simp only [List.getElem?_cons_zero, List.getElem?_cons_succ] at m0 m1 m2
  go_wp2_with fail
  refine (rTSame_any (constR st l k) (constR st l k) TA NA UA MA tn tc mn mc un uc vn vc sl sm _ (HT.out.up (by go_grown)) (HU.out.up (by go_grown))).mono ?_
  rw [sameT_self]
  rintro e w5 ⟨rfl, hb⟩
  clear k0 k1 k2 kl m0 m1 m2 ml
  have RY : Hid (Row w5 (w4.heap.size) 25 [.int .i64 (readR st l k).states, .slice PA pn pc, .slice QA qn qc]) := by
    have h0 := Row.new w4 25 [.int .i64 (readR st l k).states, .slice PA pn pc, .slice QA qn qc]
    try simp only [World.size_alloc] at h0
    exact rowCells h0 hb
  have hn : Below w4.heap.size w4 w5 := below_next hb (by go_grown)
  have RX := (show Hid (Row _ _ _ _) from rowCells RX.out hn)
  have HX := (show Hid (TAt w5 _ _ _ _ _ _) from HX.out.up hn)
  have HY := (show Hid (TAt w5 _ _ _ _ _ _) from HY.out.up hn)
  have HB := (show Hid (Below w.heap.size w w5) from below_on2 HB.out hn)
  clear hb hn
  clear RT RU HT HU
  have k0 := RX.out.cell 0
  have k1 := RX.out.cell 1
  have k2 := RX.out.cell 2
  have kl := RX.out.lt
  simp only [List.getElem?_cons_zero, List.getElem?_cons_succ] at k0 k1 k2
  have m0 := RY.out.cell 0
  have m1 := RY.out.cell 1
  have m2 := RY.out.cell 2
  have ml := RY.out.lt
  simp only [List.getElem?_cons_zero, List.getElem?_cons_succ] at m0 m1 m2
  go_wp2_with fail
  refine (rTSame_any (readR st l k) (readR st l k) XA YA PA QA xn xc yn yc pn pc qn qc sx sy _ HX.out HY.out).mono ?_
  rw [sameT_self]
  rintro e w6 ⟨rfl, hb⟩
  clear k0 k1 k2 kl m0 m1 m2 ml
  have hn : Below w5.heap.size w5 w6 := below_next hb (by go_grown)
  have HB := (show Hid (Below w.heap.size w w6) from below_on2 HB.out hn)
  clear hb hn
  clear RX RY HX HY
  go_wp2_with fail
  refine (awake_any _).mono ?_
  rintro e w9 ⟨rfl, hb⟩
  have HBE : Hid (Below w.heap.size w w9) := below_on HB.out (by go_grown) hb
  clear hb
  go_wp2
  go_ret
  exact ⟨rfl, HBE.out⟩

set_option maxRecDepth 100000 in
set_option maxHeartbeats 4000000 in
theorem lawTSame_any (a b : Tre) (GA NA GB NB : Option Addr) (ha ca na da hb cb nb db : Nat) (sl sm : List Sl) (w : World) (h1 : TAt w a GA NA ha na sl) (h2 : TAt w b GB NB hb nb sm) :
    Calls Try.prog 6 #[.agg #[.int .i64 a.states, .slice GA ha ca, .slice NA na da], .agg #[.int .i64 b.states, .slice GB hb cb, .slice NB nb db]] w fun e w' => e = .returned (.bool true) ∧ Below w.heap.size w w' := by
  have A0 : Hid (TAt w a GA NA ha na sl) := h1
  have B0 : Hid (TAt w b GB NB hb nb sm) := h2
  clear h1 h2
  go_enter Try.func6, Try.ntmps6
  go_wp2_with fail
  refine (fewT_any a GA NA ha ca na da sl _ (A0.out.up (by go_grown))).mono ?_
  rintro e w2 ⟨rfl, hb1⟩
  have RA : Hid (Row w2 w.heap.size 25 [.int .i64 a.states, .slice GA ha ca, .slice NA na da]) := rowCells ((Row.new w 25 [.int .i64 a.states, .slice GA ha ca, .slice NA na da]).alloc _) hb1
  have RB : Hid (Row w2 (w.heap.size + 1) 25 [.int .i64 b.states, .slice GB hb cb, .slice NB nb db]) := rowCells (rowNew1 w _ 25 [.int .i64 b.states, .slice GB hb cb, .slice NB nb db]) hb1
  have HB : Hid (Below w.heap.size w w2) := below_next hb1 (by go_grown)
  clear hb1
  cases hf : fewT a
  · clear RA RB
    go_wp2_with fail
    refine (awake_any _).mono ?_
    rintro e w9 ⟨rfl, hb⟩
    have HBE : Hid (Below w.heap.size w w9) := below_on HB.out (by go_grown) hb
    clear hb
    go_wp2
    go_ret
    exact ⟨rfl, HBE.out⟩
  clear hf
  have k0 := RB.out.cell 0
  have k1 := RB.out.cell 1
  have k2 := RB.out.cell 2
  have kl := RB.out.lt
  simp only [List.getElem?_cons_zero, List.getElem?_cons_succ] at k0 k1 k2
  go_wp2_with fail
  refine (fewT_any b _ NB hb cb nb db sm _ (B0.out.up HB.out)).mono ?_
  rintro e w1 ⟨rfl, hb1⟩
  clear k0 k1 k2 kl
  have RA := (show Hid (Row w1 _ _ _) from rowCells RA.out hb1)
  have RB := (show Hid (Row w1 _ _ _) from rowCells RB.out hb1)
  have HB := (show Hid (Below w.heap.size w w1) from below_on2 HB.out hb1)
  clear hb1
  cases hf : fewT b
  · clear RA RB
    go_wp2_with fail
    refine (awake_any _).mono ?_
    rintro e w9 ⟨rfl, hb⟩
    have HBE : Hid (Below w.heap.size w w9) := below_on HB.out (by go_grown) hb
    clear hb
    go_wp2
    go_ret
    exact ⟨rfl, HBE.out⟩
  clear hf
  have AT : Hid (TAt w1 a _ NA ha na sl) := A0.out.up HB.out
  have BT : Hid (TAt w1 b _ NB hb nb sm) := B0.out.up HB.out
  have hu : undef = Value.tuple #[] := rfl
  have HN : Hid (Below w1.heap.size w1 w1) := Below.refl _ _
  have HS : ∀ w', Below w1.heap.size w1 w' → w'.cell? ⟨w.heap.size, 0, none⟩ = some (.int .i64 a.states) ∧ w'.cell? ⟨w.heap.size, 1, none⟩ = some (.slice GA ha ca) ∧ w'.cell? ⟨w.heap.size, 2, none⟩ = some (.slice NA na da) ∧ w'.cell? ⟨(w.heap.size + 1), 0, none⟩ = some (.int .i64 b.states) ∧ w'.cell? ⟨(w.heap.size + 1), 1, none⟩ = some (.slice GB hb cb) ∧ w'.cell? ⟨(w.heap.size + 1), 2, none⟩ = some (.slice NB nb db) := fun w' hw => ⟨(rowCells RA.out hw).cell 0, (rowCells RA.out hw).cell 1, (rowCells RA.out hw).cell 2, (rowCells RB.out hw).cell 0, (rowCells RB.out hw).cell 1, (rowCells RB.out hw).cell 2⟩
  have hbox : w.heap.size + 1 < w1.heap.size := RB.out.lt
  generalize hsb : sameT a b = sb
  have HSB : Hid (sameT a b = sb) := hsb
  have hss : (sb == sb) = true := by simp
  clear hsb A0 B0
  have C := HS w1 HN.out
  go_wp2_with fail
  clear C RA RB
  refine wp_region_held_drew (S := fun w' => w'.cell? ⟨w.heap.size, 0, none⟩ = some (.int .i64 a.states) ∧ w'.cell? ⟨w.heap.size, 1, none⟩ = some (.slice GA ha ca) ∧ w'.cell? ⟨w.heap.size, 2, none⟩ = some (.slice NA na da) ∧ w'.cell? ⟨(w.heap.size + 1), 0, none⟩ = some (.int .i64 b.states) ∧ w'.cell? ⟨(w.heap.size + 1), 1, none⟩ = some (.slice GB hb cb) ∧ w'.cell? ⟨(w.heap.size + 1), 2, none⟩ = some (.slice NB nb db)) (by kernel_rfl) (by (try dsimp only); exact HS _ (by first | exact below_on2 HN.out (by go_grown) | go_grown)) (fun hHeld => ?_)
  refine wpAnyH_take (i := 0) (v := ?vb1) rfl (by kernel_rfl) (by kernel_rfl) (by kernel_rfl) (fun _ _ _ h => h) (Or.inl ⟨by rfl, ?yb1⟩) (by assumption) ?rb1
  case yb1 => intro w' hSw; (try dsimp only at hSw); go_simp; try (with_reducible rfl)
  go_simp
  refine wpAnyH_take (i := 1) (v := ?vb2) rfl (by kernel_rfl) (by kernel_rfl) (by kernel_rfl) (fun _ _ _ h => h) (Or.inl ⟨by rfl, ?yb2⟩) (by assumption) ?rb2
  case yb2 => intro w' hSw; (try dsimp only at hSw); go_simp; try (with_reducible rfl)
  go_simp
  refine wpAnyH_take (i := 3) (v := ?vb3) rfl (by kernel_rfl) (by kernel_rfl) (by kernel_rfl) (fun _ _ _ h => h) (Or.inl ⟨by rfl, ?yb3⟩) (by assumption) ?rb3
  case yb3 => intro w' hSw; (try dsimp only at hSw); go_simp; try (with_reducible rfl)
  go_simp
  refine wpAnyH_take (i := 4) (v := ?vb4) rfl (by kernel_rfl) (by kernel_rfl) (by kernel_rfl) (fun _ _ _ h => h) (Or.inl ⟨by rfl, ?yb4⟩) (by assumption) ?rb4
  case yb4 => intro w' hSw; (try dsimp only at hSw); go_simp; try (with_reducible rfl)
  go_simp
  refine wpAnyH_ready (rs := [2]) (by kernel_rfl) (by simp) ?_
  refine AllReadyH.cons rfl (fun K hK => ?_) AllReadyH.nil
  go_simp
  go_at_call 25
  refine (treeSame_any a b _ NA _ NB ha ca na da hb cb nb db sl sm _ (by exact AT.out.up (by first | exact below_on2 HN.out (by go_grown) | go_grown)) (by exact BT.out.up (by first | exact below_on2 HN.out (by go_grown) | go_grown))).mono ?_
  rw [HSB.out]
  rintro e w7 ⟨rfl, hb⟩
  have HN := (show Hid (Below w1.heap.size w1 w7) from below_on HN.out (by go_grown) hb)
  clear hb
  refine hK.out _ _ ?_ (fun hHeld => ?_)
  · (try dsimp only); exact HS _ (by first | exact below_on2 HN.out (by go_grown) | go_grown)
  clear hK K
  try go_simp
  refine wpAnyH_ready (rs := [5]) (by kernel_rfl) (by simp) ?_
  refine AllReadyH.cons rfl (fun K hK => ?_) AllReadyH.nil
  go_simp
  go_at_call 24
  refine (rTSame_any a b _ NA _ NB ha ca na da hb cb nb db sl sm _ (by exact AT.out.up (by first | exact below_on2 HN.out (by go_grown) | go_grown)) (by exact BT.out.up (by first | exact below_on2 HN.out (by go_grown) | go_grown))).mono ?_
  rw [HSB.out]
  rintro e w7 ⟨rfl, hb⟩
  have HN := (show Hid (Below w1.heap.size w1 w7) from below_on HN.out (by go_grown) hb)
  clear hb
  refine hK.out _ _ ?_ (fun hHeld => ?_)
  · (try dsimp only); exact HS _ (by first | exact below_on2 HN.out (by go_grown) | go_grown)
  clear hK K
  try go_simp
  refine wpAnyH_take (i := 6) (v := ?vb5) rfl (by kernel_rfl) (by kernel_rfl) (by kernel_rfl) (fun _ _ _ h => h) (Or.inl ⟨by rfl, ?yb5⟩) (by assumption) ?rb5
  case yb5 => intro w' hSw; (try dsimp only at hSw); go_simp; try (with_reducible rfl)
  go_simp
  refine wpAnyH_take (i := 7) (v := ?vb6) rfl (by kernel_rfl) (by kernel_rfl) (by kernel_rfl) (fun _ _ _ h => h) (Or.inl ⟨by rfl, ?yb6⟩) (by assumption) ?rb6
  case yb6 => intro w' hSw; (try dsimp only at hSw); go_simp; try (with_reducible rfl)
  go_simp
  refine wpAnyH_take (i := 8) (v := ?vb7) rfl (by kernel_rfl) (by kernel_rfl) (by kernel_rfl) (fun _ _ _ h => h) (Or.inl ⟨by first | rfl | (go_simp; done), ?yb7⟩) (by assumption) ?rb7
  case yb7 => intro w' hSw; (try dsimp only at hSw); go_simp; try (with_reducible rfl)
  go_simp
  refine wpAnyH_take (i := 9) (v := ?vb8) rfl (by kernel_rfl) (by kernel_rfl) (by kernel_rfl) (fun _ _ _ h => h) (Or.inl ⟨by first | rfl | (go_simp; done), ?yb8⟩) (by assumption) ?rb8
  case yb8 => intro w' hSw; (try dsimp only at hSw); go_simp; try (with_reducible rfl)
  go_simp
  refine wpAnyH_ready (rs := [10]) (by kernel_rfl) (by simp) ?_
  refine AllReadyH.cons rfl (fun K hK => ?_) AllReadyH.nil
  go_simp
  go_at_call 25
  refine (treeSame_any a a _ NA _ NA ha ca na da ha ca na da sl sl _ (by exact AT.out.up (by first | exact below_on2 HN.out (by go_grown) | go_grown)) (by exact AT.out.up (by first | exact below_on2 HN.out (by go_grown) | go_grown))).mono ?_
  rw [sameT_self]
  rintro e w7 ⟨rfl, hb⟩
  have HN := (show Hid (Below w1.heap.size w1 w7) from below_on HN.out (by go_grown) hb)
  clear hb
  refine hK.out _ _ ?_ (fun hHeld => ?_)
  · (try dsimp only); exact HS _ (by first | exact below_on2 HN.out (by go_grown) | go_grown)
  clear hK K
  try go_simp
  refine wpAnyH_take (i := 11) (v := ?vb9) rfl (by kernel_rfl) (by kernel_rfl) (by kernel_rfl) (fun _ _ _ h => h) (Or.inl ⟨by rfl, ?yb9⟩) (by assumption) ?rb9
  case yb9 => intro w' hSw; (try dsimp only at hSw); go_simp; try (with_reducible rfl)
  go_simp
  refine wpAnyH_take (i := 12) (v := ?vb10) rfl (by kernel_rfl) (by kernel_rfl) (by kernel_rfl) (fun _ _ _ h => h) (Or.inl ⟨by rfl, ?yb10⟩) (by assumption) ?rb10
  case yb10 => intro w' hSw; (try dsimp only at hSw); go_simp; try (with_reducible rfl)
  go_simp
  refine wpAnyH_ready (rs := [13]) (by kernel_rfl) (by simp) ?_
  refine AllReadyH.cons rfl (fun K hK => ?_) AllReadyH.nil
  go_simp
  go_at_call 10
  refine (awake_any _).mono ?_
  rintro e w7 ⟨rfl, hb⟩
  have HN := (show Hid (Below w1.heap.size w1 w7) from below_on HN.out (by go_grown) hb)
  clear hb
  refine hK.out _ _ ?_ (fun hHeld => ?_)
  · (try dsimp only); exact HS _ (by first | exact below_on2 HN.out (by go_grown) | go_grown)
  clear hK K
  try go_simp
  refine wpAnyH_take (i := 14) (v := ?vb11) rfl (by kernel_rfl) (by kernel_rfl) (by kernel_rfl) (fun _ _ _ h => h) (Or.inl ⟨by rfl, ?yb11⟩) (by assumption) ?rb11
  case yb11 => intro w' hSw; (try dsimp only at hSw); go_simp; try (with_reducible rfl)
  go_simp
  refine wpAnyH_take (i := 15) (v := ?vb12) rfl (by kernel_rfl) (by kernel_rfl) (by kernel_rfl) (fun _ _ _ h => h) (Or.inl ⟨by rfl, ?yb12⟩) (by assumption) ?rb12
  case yb12 => intro w' hSw; (try dsimp only at hSw); go_simp; try (with_reducible rfl)
  go_simp
  refine wpAnyH_done (by kernel_rfl) ?_ _
  go_wp2
  go_ret
  exact ⟨rfl, below_on2 HB.out (by first | exact HN.out | exact below_on2 HN.out (by go_grown))⟩
end Go.Proofs.Ytjacgoipfmiaiaa
