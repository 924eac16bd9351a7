/-
  The fixed examples of the statements about rule trees hold.
-/
import Derived.Test.YtjacgoipfmiaiaaTRead
import Derived.Test.YtjacgoipfmiaiaaTQuiet
import Derived.Test.YtjacgoipfmiaiaaTInts
import Derived.BigRegion
namespace Go.Proofs.Ytjacgoipfmiaiaa
open Go.RowKit
set_option linter.unusedSimpArgs false
set_option linter.unusedVariables false
def awL : List Pt := [⟨-1, 0⟩, ⟨0, 0⟩]
def awT : Tre := ⟨2, awL, [⟨1, [0, 0]⟩, ⟨1, [1, 1]⟩, ⟨2, [0, 1]⟩]⟩
def awC : Tre := ⟨3, awL, [⟨1, [2, 2, 2]⟩, ⟨2, [0, 0, 0]⟩]⟩
theorem aw_read : readR 2 awL 0 = awT ∧ readErr 2 awL 0 = 0 := ⟨(sameT_iff _ _).1 (by decide +kernel), by decide +kernel⟩
theorem aw_const : constR 3 awL 2 = awC ∧ constErr 3 awL 2 = 0 := ⟨(sameT_iff _ _).1 (by decide +kernel), by decide +kernel⟩
theorem aw_e1 : evalV awT [1, 0] = 1 ∧ evalErr awT [1, 0] = 0 := ⟨by decide +kernel, by decide +kernel⟩
theorem aw_e2 : evalV awC [1, 0] = 2 ∧ evalErr awC [1, 0] = 0 := ⟨by decide +kernel, by decide +kernel⟩
theorem aw_e3 : evalErr awT [2, 0] = 10 := by decide +kernel
theorem aw_rights : rightT awT = true ∧ rightT noTre = false := ⟨by decide +kernel, by decide +kernel⟩
theorem aw_quiets : quietT awT = true ∧ quietT awC = false := ⟨by decide +kernel, by decide +kernel⟩
theorem aw_size : sizeT awT = [2, 1] := by decide +kernel
theorem awT_at {w : World} {bl b0 b1 b2 bn : Nat} (hl : Row w bl 43 [.int .i64 (-1), .int .i64 0, .int .i64 0, .int .i64 0]) (h0 : Row w b0 3 [.int .i64 0, .int .i64 0]) (h1 : Row w b1 3 [.int .i64 1, .int .i64 1]) (h2 : Row w b2 3 [.int .i64 0, .int .i64 1])
    (hn : Row w bn 41 [.int .i64 1, .slice (some ⟨b0, 0, none⟩) 2 2, .int .i64 1, .slice (some ⟨b1, 0, none⟩) 2 2, .int .i64 2, .slice (some ⟨b2, 0, none⟩) 2 2]) :
    TAt w awT (some ⟨bl, 0, none⟩) (some ⟨bn, 0, none⟩) 2 3 [⟨some ⟨b0, 0, none⟩, 2, 2⟩, ⟨some ⟨b1, 0, none⟩, 2, 2⟩, ⟨some ⟨b2, 0, none⟩, 2, 2⟩] := by
  refine ⟨hl.rd rfl, hn.rd rfl, rfl, fun i hi => ?_, by unfold maxLen; omega, by unfold maxLen; omega⟩
  have hi : i < 3 := hi
  have hc : i = 0 ∨ i = 1 ∨ i = 2 := by omega
  rcases hc with rfl | rfl | rfl
  · exact ⟨h0.rd rfl, by show 2 ≤ maxLen; unfold maxLen; omega⟩
  · exact ⟨h1.rd rfl, by show 2 ≤ maxLen; unfold maxLen; omega⟩
  · exact ⟨h2.rd rfl, by show 2 ≤ maxLen; unfold maxLen; omega⟩

set_option maxRecDepth 100000 in
set_option maxHeartbeats 8000000 in
theorem awake_any (w : World) : Calls Try.prog 10 #[] w fun e w' => e = .returned (.bool true) ∧ Below w.heap.size w w' := by
  have hm2 : Hid (2 ≤ maxLen) := by show 2 ≤ maxLen; unfold maxLen; omega
  go_enter Try.func10, Try.ntmps10
  go_wp2_with fail
  refine (tRead_any 2 0 awL (some ⟨w.heap.size, 0, none⟩) 2 2 _ ((Row.new w 43 [.int .i64 (-1), .int .i64 0, .int .i64 0, .int .i64 0]).rd rfl) hm2.out).mono ?_
  rintro e w1 ⟨TA, NA, tn, tc, mn, mc, sl, rfl, ha, hb⟩
  rw [aw_read.1] at ha ⊢
  rw [aw_read.2]
  obtain rfl : 2 = tn := ha.hl
  obtain rfl : 3 = mn := ha.nl
  have HT : Hid (TAt w1 awT TA NA 2 3 sl) := ha
  have RL : Hid (Row w1 w.heap.size 43 [.int .i64 (-1), .int .i64 0, .int .i64 0, .int .i64 0]) := rowCells (Row.new w 43 [.int .i64 (-1), .int .i64 0, .int .i64 0, .int .i64 0]) hb
  have HB : Hid (Below w.heap.size w w1) := below_next hb (by go_grown)
  clear ha hb
  dsimp only [awT]
  go_wp2_with fail
  refine (tConst_any 3 2 awL (some ⟨w.heap.size, 0, none⟩) 2 2 _ ((RL.out.alloc _).rd rfl) hm2.out).mono ?_
  rintro e w2 ⟨UA, MA, un, uc, vn, vc, sm, rfl, hu, hb⟩
  rw [aw_const.1] at hu ⊢
  rw [aw_const.2]
  obtain rfl : 2 = un := hu.hl
  obtain rfl : 2 = vn := hu.nl
  have HU : Hid (TAt w2 awC UA MA 2 2 sm) := hu
  clear hu
  have RT : Hid (Row w2 (w1.heap.size) 25 [.int .i64 2, .slice TA 2 tc, .slice NA 3 mc]) := by
    have h0 := Row.new w1 25 [.int .i64 2, .slice TA 2 tc, .slice NA 3 mc]
    try simp only [World.size_alloc] at h0
    exact rowCells h0 hb
  have hn : Below w1.heap.size w1 w2 := below_next hb (by go_grown)
  have RL := (show Hid (Row _ _ _ _) from rowCells RL.out hn)
  have HT := (show Hid (TAt w2 _ _ _ _ _ _) from HT.out.up hn)
  have HB := (show Hid (Below w.heap.size w w2) from below_on2 HB.out hn)
  clear hb hn
  dsimp only [awC]
  have k0 := RT.out.cell 0
  have k1 := RT.out.cell 1
  have k2 := RT.out.cell 2
  have kl := RT.out.lt
  simp only [List.getElem?_cons_zero, List.getElem?_cons_succ] at k0 k1 k2
  go_wp2_with fail
  refine (tEval_any awT TA NA (some ⟨w2.heap.size + 1, 0, none⟩) 2 tc 3 mc 2 2 sl [1, 0] _ (HT.out.up (by go_grown)) ((rowNew1 w2 _ 3 [.int .i64 1, .int .i64 0]).rd rfl) hm2.out).mono ?_
  rintro e w3 ⟨rfl, hb⟩
  rw [aw_e1.1, aw_e1.2]
  clear k0 k1 k2 kl
  have RU : Hid (Row w3 (w2.heap.size) 25 [.int .i64 3, .slice UA 2 uc, .slice MA 2 vc]) := by
    have h0 := Row.new w2 25 [.int .i64 3, .slice UA 2 uc, .slice MA 2 vc]
    try simp only [World.size_alloc] at h0
    exact rowCells (h0.alloc _) hb
  have hn : Below w2.heap.size w2 w3 := below_next hb (by go_grown)
  have RL := (show Hid (Row _ _ _ _) from rowCells RL.out hn)
  have RT := (show Hid (Row _ _ _ _) from rowCells RT.out hn)
  have HT := (show Hid (TAt w3 _ _ _ _ _ _) from HT.out.up hn)
  have HU := (show Hid (TAt w3 _ _ _ _ _ _) from HU.out.up hn)
  have HB := (show Hid (Below w.heap.size w w3) from below_on2 HB.out hn)
  clear hb hn
  have k0 := RU.out.cell 0
  have k1 := RU.out.cell 1
  have k2 := RU.out.cell 2
  have kl := RU.out.lt
  simp only [List.getElem?_cons_zero, List.getElem?_cons_succ] at k0 k1 k2
  go_wp2_with fail
  refine (tEval_any awC UA MA (some ⟨w3.heap.size, 0, none⟩) 2 uc 2 vc 2 2 sm [1, 0] _ (HU.out.up (by go_grown)) ((Row.new w3 3 [.int .i64 1, .int .i64 0]).rd rfl) hm2.out).mono ?_
  rintro e w4 ⟨rfl, hb⟩
  rw [aw_e2.1, aw_e2.2]
  clear k0 k1 k2 kl
  have hn : Below w3.heap.size w3 w4 := below_next hb (by go_grown)
  have RL := (show Hid (Row _ _ _ _) from rowCells RL.out hn)
  have RT := (show Hid (Row _ _ _ _) from rowCells RT.out hn)
  have RU := (show Hid (Row _ _ _ _) from rowCells RU.out hn)
  have HT := (show Hid (TAt w4 _ _ _ _ _ _) from HT.out.up hn)
  have HU := (show Hid (TAt w4 _ _ _ _ _ _) from HU.out.up hn)
  have HB := (show Hid (Below w.heap.size w w4) from below_on2 HB.out hn)
  clear hb hn
  have k0 := RT.out.cell 0
  have k1 := RT.out.cell 1
  have k2 := RT.out.cell 2
  have kl := RT.out.lt
  simp only [List.getElem?_cons_zero, List.getElem?_cons_succ] at k0 k1 k2
  go_wp2_with fail
  refine (tEval_any awT TA NA (some ⟨w4.heap.size, 0, none⟩) 2 tc 3 mc 2 2 sl [2, 0] _ (HT.out.up (by go_grown)) ((Row.new w4 3 [.int .i64 2, .int .i64 0]).rd rfl) hm2.out).mono ?_
  rintro e w5 ⟨rfl, hb⟩
  rw [aw_e3]
  generalize evalV awT [2, 0] = ev
  clear k0 k1 k2 kl
  have hn : Below w4.heap.size w4 w5 := below_next hb (by go_grown)
  have RL := (show Hid (Row _ _ _ _) from rowCells RL.out hn)
  have RT := (show Hid (Row _ _ _ _) from rowCells RT.out hn)
  have RU := (show Hid (Row _ _ _ _) from rowCells RU.out hn)
  have HT := (show Hid (TAt w5 _ _ _ _ _ _) from HT.out.up hn)
  have HU := (show Hid (TAt w5 _ _ _ _ _ _) from HU.out.up hn)
  have HB := (show Hid (Below w.heap.size w w5) from below_on2 HB.out hn)
  clear hb hn
  have k0 := RT.out.cell 0
  have k1 := RT.out.cell 1
  have k2 := RT.out.cell 2
  have kl := RT.out.lt
  simp only [List.getElem?_cons_zero, List.getElem?_cons_succ] at k0 k1 k2
  have RTc : Hid (Row (World.alloc (World.alloc (World.alloc (World.alloc (World.alloc w5 (.cells #[.int .i64 0, .int .i64 0] 3)) (.cells #[.int .i64 1, .int .i64 1] 3)) (.cells #[.int .i64 0, .int .i64 1] 3)) (.cells #[.int .i64 1, .slice (some ⟨w5.heap.size, 0, none⟩) 2 2, .int .i64 1, .slice (some ⟨(w5.heap.size + 1), 0, none⟩) 2 2, .int .i64 2, .slice (some ⟨(w5.heap.size + 1 + 1), 0, none⟩) 2 2] 41)) (.cells #[.int .i64 2, .slice (some ⟨w.heap.size, 0, none⟩) 2 2, .slice (some ⟨w5.heap.size + 1 + 1 + 1, 0, none⟩) 3 3] 25)) w1.heap.size 25 [.int .i64 2, .slice TA 2 tc, .slice NA 3 mc]) := rowCells RT.out (by go_grown)
  clear k0 k1 k2 kl
  have k0 := RTc.out.cell 0
  have k1 := RTc.out.cell 1
  have k2 := RTc.out.cell 2
  have kl := RTc.out.lt
  simp only [List.getElem?_cons_zero, List.getElem?_cons_succ] at k0 k1 k2
  go_wp2_with fail
  have hc0 : Hid (TAt (World.alloc (World.alloc (World.alloc (World.alloc (World.alloc w5 (.cells #[.int .i64 0, .int .i64 0] 3)) (.cells #[.int .i64 1, .int .i64 1] 3)) (.cells #[.int .i64 0, .int .i64 1] 3)) (.cells #[.int .i64 1, .slice (some ⟨w5.heap.size, 0, none⟩) 2 2, .int .i64 1, .slice (some ⟨(w5.heap.size + 1), 0, none⟩) 2 2, .int .i64 2, .slice (some ⟨(w5.heap.size + 1 + 1), 0, none⟩) 2 2] 41)) (.cells #[.int .i64 2, .slice (some ⟨w.heap.size, 0, none⟩) 2 2, .slice (some ⟨w5.heap.size + 1 + 1 + 1, 0, none⟩) 3 3] 25)) awT (some ⟨w.heap.size, 0, none⟩) (some ⟨w5.heap.size + 1 + 1 + 1, 0, none⟩) 2 3 [⟨some ⟨w5.heap.size, 0, none⟩, 2, 2⟩, ⟨some ⟨w5.heap.size + 1, 0, none⟩, 2, 2⟩, ⟨some ⟨w5.heap.size + 1 + 1, 0, none⟩, 2, 2⟩]) := by
    refine awT_at (rowCells RL.out (by go_grown)) ?_ ?_ ?_ ?_
    · exact ((((Row.new w5 3 [.int .i64 0, .int .i64 0]).alloc _).alloc _).alloc _).alloc _
    · exact (((rowNew1 w5 _ 3 [.int .i64 1, .int .i64 1]).alloc _).alloc _).alloc _
    · exact ((rowNew2 w5 _ _ 3 [.int .i64 0, .int .i64 1]).alloc _).alloc _
    · have h0 := Row.new (World.alloc (World.alloc (World.alloc w5 (.cells #[.int .i64 0, .int .i64 0] 3)) (.cells #[.int .i64 1, .int .i64 1] 3)) (.cells #[.int .i64 0, .int .i64 1] 3)) 41 [.int .i64 1, .slice (some ⟨w5.heap.size, 0, none⟩) 2 2, .int .i64 1, .slice (some ⟨(w5.heap.size + 1), 0, none⟩) 2 2, .int .i64 2, .slice (some ⟨(w5.heap.size + 1 + 1), 0, none⟩) 2 2]
      simp only [World.size_alloc] at h0
      exact h0.alloc _
  refine (treeSame_any awT awT TA NA (some ⟨w.heap.size, 0, none⟩) (some ⟨w5.heap.size + 1 + 1 + 1, 0, none⟩) 2 tc 3 mc 2 2 3 3 sl _ _ (HT.out.up (by go_grown)) hc0.out).mono ?_
  rw [sameT_self]
  rintro e w6 ⟨rfl, hb⟩
  clear k0 k1 k2 kl hc0 RTc
  have hn : Below w5.heap.size w5 w6 := below_next hb (by go_grown)
  have RT := (show Hid (Row _ _ _ _) from rowCells RT.out hn)
  have RU := (show Hid (Row _ _ _ _) from rowCells RU.out hn)
  have HT := (show Hid (TAt w6 _ _ _ _ _ _) from HT.out.up hn)
  have HU := (show Hid (TAt w6 _ _ _ _ _ _) from HU.out.up hn)
  have HB := (show Hid (Below w.heap.size w w6) from below_on2 HB.out hn)
  clear hb hn
  clear RL
  have k0 := RT.out.cell 0
  have k1 := RT.out.cell 1
  have k2 := RT.out.cell 2
  have kl := RT.out.lt
  simp only [List.getElem?_cons_zero, List.getElem?_cons_succ] at k0 k1 k2
  go_wp2_with fail
  refine (treeRight_any awT TA NA 2 tc 3 mc sl _ HT.out).mono ?_
  rw [aw_rights.1]
  rintro e w7 ⟨rfl, hb⟩
  clear k0 k1 k2 kl
  have hn : Below w6.heap.size w6 w7 := below_next hb (by go_grown)
  have RT := (show Hid (Row _ _ _ _) from rowCells RT.out hn)
  have RU := (show Hid (Row _ _ _ _) from rowCells RU.out hn)
  have HT := (show Hid (TAt w7 _ _ _ _ _ _) from HT.out.up hn)
  have HU := (show Hid (TAt w7 _ _ _ _ _ _) from HU.out.up hn)
  have HB := (show Hid (Below w.heap.size w w7) from below_on2 HB.out hn)
  clear hb hn
  have k0 := RT.out.cell 0
  have k1 := RT.out.cell 1
  have k2 := RT.out.cell 2
  have kl := RT.out.lt
  simp only [List.getElem?_cons_zero, List.getElem?_cons_succ] at k0 k1 k2
  go_wp2_with fail
  refine (tQuiet_any awT TA NA 2 tc 3 mc sl _ HT.out).mono ?_
  rw [aw_quiets.1]
  rintro e w8 ⟨rfl, hb⟩
  clear k0 k1 k2 kl
  have hn : Below w7.heap.size w7 w8 := below_next hb (by go_grown)
  have RT := (show Hid (Row _ _ _ _) from rowCells RT.out hn)
  have RU := (show Hid (Row _ _ _ _) from rowCells RU.out hn)
  have HT := (show Hid (TAt w8 _ _ _ _ _ _) from HT.out.up hn)
  have HU := (show Hid (TAt w8 _ _ _ _ _ _) from HU.out.up hn)
  have HB := (show Hid (Below w.heap.size w w8) from below_on2 HB.out hn)
  clear hb hn
  have k0 := RU.out.cell 0
  have k1 := RU.out.cell 1
  have k2 := RU.out.cell 2
  have kl := RU.out.lt
  simp only [List.getElem?_cons_zero, List.getElem?_cons_succ] at k0 k1 k2
  go_wp2_with fail
  refine (tQuiet_any awC UA MA 2 uc 2 vc sm _ HU.out).mono ?_
  rw [aw_quiets.2]
  rintro e w9 ⟨rfl, hb⟩
  clear k0 k1 k2 kl
  have hn : Below w8.heap.size w8 w9 := below_next hb (by go_grown)
  have RT := (show Hid (Row _ _ _ _) from rowCells RT.out hn)
  have HT := (show Hid (TAt w9 _ _ _ _ _ _) from HT.out.up hn)
  have HB := (show Hid (Below w.heap.size w w9) from below_on2 HB.out hn)
  clear hb hn
  clear RU HU
  have k0 := RT.out.cell 0
  have k1 := RT.out.cell 1
  have k2 := RT.out.cell 2
  have kl := RT.out.lt
  simp only [List.getElem?_cons_zero, List.getElem?_cons_succ] at k0 k1 k2
  go_wp2_with fail
  refine (tSize_any awT TA NA 2 tc 3 mc sl _ HT.out).mono ?_
  rw [aw_size]
  rintro e w10 ⟨SA, sn, sc, rfl, hs, hsm, hb⟩
  have HI1 : Hid (Rd w10 w10.heap.size 1 SA sn (ints [2, 1])) := hs
  have HSM : Hid (sn ≤ maxLen) := hsm
  clear k0 k1 k2 kl hs hsm
  have hn : Below w9.heap.size w9 w10 := below_next hb (by go_grown)
  have HB := (show Hid (Below w.heap.size w w10) from below_on2 HB.out hn)
  clear hb hn
  clear RT HT
  go_wp2_with fail
  refine (lInts_any SA (some ⟨w10.heap.size, 0, none⟩) sn 2 sc 2 [2, 1] [2, 1] _ (HI1.out.up (by go_grown)) ((Row.new w10 3 [.int .i64 2, .int .i64 1]).rd rfl) HSM.out hm2.out).mono ?_
  rw [decide_eq_true (rfl : ([2, 1] : List Int) = [2, 1])]
  rintro e w11 ⟨rfl, hb⟩
  have hn : Below w10.heap.size w10 w11 := below_next hb (by go_grown)
  have HB := (show Hid (Below w.heap.size w w11) from below_on2 HB.out hn)
  clear hb hn
  go_wp2_with fail
  refine (treeRight_any noTre none none 0 0 0 0 [] _ (noTre_at _)).mono ?_
  rw [aw_rights.2]
  rintro e w12 ⟨rfl, hb⟩
  have hn : Below w11.heap.size w11 w12 := below_next hb (by go_grown)
  have HB := (show Hid (Below w.heap.size w w12) from below_on2 HB.out hn)
  clear hb hn
  go_wp2
  go_ret
  exact ⟨rfl, HB.out⟩
end Go.Proofs.Ytjacgoipfmiaiaa
