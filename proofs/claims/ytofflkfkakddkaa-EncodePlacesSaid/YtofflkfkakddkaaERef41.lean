/-
  The reference's Place and both Circuits, walked.
-/
import Derived.Test.YtofflkfkakddkaaEPlace
import Derived.Test.YtofflkfkakddkaaERPlace
import Derived.Test.YtofflkfkakddkaaEPost
namespace Go.Proofs.Ytofflkfkakddkaa
open Go.RowKit
set_option linter.unusedSimpArgs false
set_option linter.unusedVariables false
set_option maxRecDepth 100000 in
set_option maxHeartbeats 10000000 in
theorem rPlaceC_any (f : Fml) (c : Circ) (ins : List Int) (FA GA OA IA : Option Addr) (fn fc gn gc on oc k ic : Nat) (sl : List Sl) (w : World)
    (hf : FAt w f FA fn sl) (hc : CAt w c GA OA gn on) (hi : Rd w w.heap.size 1 IA k (ints ins)) (hk : k ≤ maxLen) :
    Calls Try.prog 16 #[.agg #[.int .i64 f.vars, .slice FA fn fc], .agg #[.int .i64 c.inputs, .slice GA gn gc, .slice OA on oc], .slice IA k ic] w (PlaceAt (placeR f c ins) (placeOuts f c ins) (placeErr f c ins) w) := by
  have HF : Hid (FAt w f FA fn sl) := hf
  have HC : Hid (CAt w c GA OA gn on) := hc
  have HI : Hid (Rd w w.heap.size 1 IA k (ints ins)) := hi
  have HLI : Hid (ins.length = k) := by have := hi.1; rw [ints_length, Nat.mul_one] at this; exact this
  have HKM : Hid (k ≤ maxLen) := hk
  have hm1 := hc.g63
  have hm2 := hc.o63
  have hm3 := hf.n63
  unfold maxLen at hk hm1 hm2 hm3
  clear hf hc hi
  go_enter Try.func16, Try.ntmps16
  go_wp2_with fail
  have RF : Hid (Row (World.alloc (World.alloc (World.alloc w (.cells #[.int .i64 f.vars, .slice FA fn fc] 30)) (.cells #[.int .i64 c.inputs, .slice GA gn gc, .slice OA on oc] 25)) (.cells #[.int .i64 0, .slice none 0 0] 30)) (w.heap.size) 30 [.int .i64 f.vars, .slice FA fn fc]) := by
    have h0 := Row.new w 30 [.int .i64 f.vars, .slice FA fn fc]
    try simp only [World.size_alloc] at h0
    exact ((h0.alloc _).alloc _)
  have RC : Hid (Row (World.alloc (World.alloc (World.alloc w (.cells #[.int .i64 f.vars, .slice FA fn fc] 30)) (.cells #[.int .i64 c.inputs, .slice GA gn gc, .slice OA on oc] 25)) (.cells #[.int .i64 0, .slice none 0 0] 30)) (w.heap.size + 1) 25 [.int .i64 c.inputs, .slice GA gn gc, .slice OA on oc]) := by
    have h0 := Row.new (World.alloc w (.cells #[.int .i64 f.vars, .slice FA fn fc] 30)) 25 [.int .i64 c.inputs, .slice GA gn gc, .slice OA on oc]
    try simp only [World.size_alloc] at h0
    exact (h0.alloc _)
  have RZ : Hid (Row (World.alloc (World.alloc (World.alloc w (.cells #[.int .i64 f.vars, .slice FA fn fc] 30)) (.cells #[.int .i64 c.inputs, .slice GA gn gc, .slice OA on oc] 25)) (.cells #[.int .i64 0, .slice none 0 0] 30)) (w.heap.size + 1 + 1) 30 [.int .i64 0, .slice none 0 0]) := by
    have h0 := Row.new (World.alloc (World.alloc w (.cells #[.int .i64 f.vars, .slice FA fn fc] 30)) (.cells #[.int .i64 c.inputs, .slice GA gn gc, .slice OA on oc] 25)) 30 [.int .i64 0, .slice none 0 0]
    try simp only [World.size_alloc] at h0
    exact h0
  have hgr9 : Below w.heap.size w (World.alloc (World.alloc (World.alloc w (.cells #[.int .i64 f.vars, .slice FA fn fc] 30)) (.cells #[.int .i64 c.inputs, .slice GA gn gc, .slice OA on oc] 25)) (.cells #[.int .i64 0, .slice none 0 0] 30)) := by go_grown
  have B_w : Hid (Below w.heap.size w (World.alloc (World.alloc (World.alloc w (.cells #[.int .i64 f.vars, .slice FA fn fc] 30)) (.cells #[.int .i64 c.inputs, .slice GA gn gc, .slice OA on oc] 25)) (.cells #[.int .i64 0, .slice none 0 0] 30))) := hgr9
  clear hgr9
  revert RF RC RZ B_w
  generalize (World.alloc (World.alloc (World.alloc w (.cells #[.int .i64 f.vars, .slice FA fn fc] 30)) (.cells #[.int .i64 c.inputs, .slice GA gn gc, .slice OA on oc] 25)) (.cells #[.int .i64 0, .slice none 0 0] 30)) = wa
  intro RF RC RZ B_w
  refine (rFRight_any f FA fn fc sl wa (HF.out.up B_w.out)).mono ?_
  rintro e w1 ⟨rfl, hb⟩
  have B_w : Hid (Below w.heap.size w w1) := below_on2 B_w.out hb
  have B_wa : Hid (Below wa.heap.size wa w1) := hb
  clear hb
  cases hr1 : rightF f
  · have HCE : Hid (placeR f c ins = noFml ∧ placeOuts f c ins = [] ∧ placeErr f c ins = 2) := placeBad (by unfold placeOk; rw [hr1]; rfl)
    clear hr1
    have RZb : Hid (Row w1 (w.heap.size + 1 + 1) 30 [.int .i64 0, .slice none 0 0]) := (rowCells RZ.out B_wa.out)
    have d0 := RZb.out.cell 0
    have d1 := RZb.out.cell 1
    have dl := RZb.out.lt
    simp only [List.getElem?_cons_zero, List.getElem?_cons_succ] at d0 d1
    have df0 := RZb.out.frozen 0
    have df1 := RZb.out.frozen 1
    have BB := B_w.out
    go_wp2
    exact bodyPost_ret (v := .tuple #[.agg #[.int .i64 0, .slice none 0 0], .slice none 0 0, .int .i64 2]) (by simp [results, Try.results16, go_sem, d0, d1]) rfl (placeAt_err HCE.out.1 HCE.out.2.1 HCE.out.2.2 (by go_grown))
  have kR : Hid (Row w1 (w.heap.size + 1) 25 [.int .i64 c.inputs, .slice GA gn gc, .slice OA on oc]) := (rowCells RC.out B_wa.out)
  have k0 := kR.out.cell 0
  have k1 := kR.out.cell 1
  have k2 := kR.out.cell 2
  have kl := kR.out.lt
  simp only [List.getElem?_cons_zero, List.getElem?_cons_succ] at k0 k1 k2
  clear kR
  go_wp2_with fail
  refine (rRight_at c GA OA gn gc on oc w1 (HC.out.up B_w.out)).mono ?_
  rintro e w2 ⟨rfl, hb⟩
  have B_w : Hid (Below w.heap.size w w2) := below_on2 B_w.out hb
  have B_wa : Hid (Below wa.heap.size wa w2) := below_on2 B_wa.out hb
  have B_w1 : Hid (Below w1.heap.size w1 w2) := hb
  clear k0 k1 k2 kl
  clear hb
  cases hr2 : rightC c
  · have HCE : Hid (placeR f c ins = noFml ∧ placeOuts f c ins = [] ∧ placeErr f c ins = 2) := placeBad (by unfold placeOk; rw [hr2]; simp)
    clear hr1 hr2
    have RZb : Hid (Row w2 (w.heap.size + 1 + 1) 30 [.int .i64 0, .slice none 0 0]) := (rowCells RZ.out B_wa.out)
    have d0 := RZb.out.cell 0
    have d1 := RZb.out.cell 1
    have dl := RZb.out.lt
    simp only [List.getElem?_cons_zero, List.getElem?_cons_succ] at d0 d1
    have df0 := RZb.out.frozen 0
    have df1 := RZb.out.frozen 1
    have BB := B_w.out
    go_wp2
    exact bodyPost_ret (v := .tuple #[.agg #[.int .i64 0, .slice none 0 0], .slice none 0 0, .int .i64 2]) (by simp [results, Try.results16, go_sem, d0, d1]) rfl (placeAt_err HCE.out.1 HCE.out.2.1 HCE.out.2.2 (by go_grown))
  by_cases hl : (k : Int) = c.inputs
  · have hne : ((k : Int) != c.inputs) = false := by simpa using hl
    have kR : Hid (Row w2 (w.heap.size) 30 [.int .i64 f.vars, .slice FA fn fc]) := (rowCells RF.out B_wa.out)
    have k0 := kR.out.cell 0
    have k1 := kR.out.cell 1
    have kl := kR.out.lt
    simp only [List.getElem?_cons_zero, List.getElem?_cons_succ] at k0 k1
    clear kR
    have qR : Hid (Row w2 (w.heap.size + 1) 25 [.int .i64 c.inputs, .slice GA gn gc, .slice OA on oc]) := (rowCells RC.out B_wa.out)
    have q0 := qR.out.cell 0
    have q1 := qR.out.cell 1
    have q2 := qR.out.cell 2
    have ql := qR.out.lt
    simp only [List.getElem?_cons_zero, List.getElem?_cons_succ] at q0 q1 q2
    clear qR
    have HR1 : Hid (rightF f = true) := hr1
    have HR2 : Hid (rightC c = true) := hr2
    have HKI : Hid ((k : Int) = c.inputs) := hl
    clear hr1 hr2 hl
    go_wp2_with fail
    refine (rVars_any f.vars (.slice FA fn fc) IA k ic ins w2 (HI.out.up B_w.out) HKM.out).mono ?_
    rintro e w3 ⟨rfl, hb⟩
    have B_w : Hid (Below w.heap.size w w3) := below_on2 B_w.out hb
    have B_wa : Hid (Below wa.heap.size wa w3) := below_on2 B_wa.out hb
    have B_w1 : Hid (Below w1.heap.size w1 w3) := below_on2 B_w1.out hb
    have B_w2 : Hid (Below w2.heap.size w2 w3) := hb
    clear k0 k1 kl q0 q1 q2 ql
    clear hb
    cases hr3 : varsOk f.vars ins
    · have HCE : Hid (placeR f c ins = noFml ∧ placeOuts f c ins = [] ∧ placeErr f c ins = 2) := placeBad (by unfold placeOk; rw [hr3]; simp)
      clear hr3
      have RZb : Hid (Row w3 (w.heap.size + 1 + 1) 30 [.int .i64 0, .slice none 0 0]) := (rowCells RZ.out B_wa.out)
      have d0 := RZb.out.cell 0
      have d1 := RZb.out.cell 1
      have dl := RZb.out.lt
      simp only [List.getElem?_cons_zero, List.getElem?_cons_succ] at d0 d1
      have df0 := RZb.out.frozen 0
      have df1 := RZb.out.frozen 1
      have BB := B_w.out
      go_wp2
      exact bodyPost_ret (v := .tuple #[.agg #[.int .i64 0, .slice none 0 0], .slice none 0 0, .int .i64 2]) (by simp [results, Try.results16, go_sem, d0, d1]) rfl (placeAt_err HCE.out.1 HCE.out.2.1 HCE.out.2.2 (by go_grown))
    have HOK : Hid (placeOk f c ins = true) := place_ok HR1.out HR2.out HLI.out HKI.out hr3
    clear hr3 hne
    have kR : Hid (Row w3 (w.heap.size) 30 [.int .i64 f.vars, .slice FA fn fc]) := (rowCells RF.out B_wa.out)
    have k0 := kR.out.cell 0
    have k1 := kR.out.cell 1
    have kl := kR.out.lt
    simp only [List.getElem?_cons_zero, List.getElem?_cons_succ] at k0 k1
    clear kR
    have qR : Hid (Row w3 (w.heap.size + 1) 25 [.int .i64 c.inputs, .slice GA gn gc, .slice OA on oc]) := (rowCells RC.out B_wa.out)
    have q0 := qR.out.cell 0
    have q1 := qR.out.cell 1
    have q2 := qR.out.cell 2
    have ql := qR.out.lt
    simp only [List.getElem?_cons_zero, List.getElem?_cons_succ] at q0 q1 q2
    clear qR
    go_wp2_with fail
    have HCT := rPlaceF_any f c ins FA GA OA IA fn fc gn gc on oc k ic sl w3 (HF.out.up B_w.out) (HC.out.up B_w.out) (HI.out.up B_w.out) HOK.out w.heap.size B_w.out.size (fun i hi => ⟨(HF.out.next i hi).1.below B_w.out (Nat.le_refl _), (HF.out.next i hi).2⟩)
    with_reducible refine HCT.mono ?_
    clear HCT
    rintro e w4 ⟨PA, pn, pc, sp, QA, qn, qc, rfl, hpl, hE, hO, hqn, hb⟩
    have HE4 : Hid (EOwn w4 w.heap.size w3.heap.size (.slice PA pn pc) sp (placeF f c ins).cls) := hE
    have HO4 : Hid (w4.ownsRow w3.heap.size 3 1 (.slice QA qn qc) qn (ints (placeO f c ins))) := hO
    have HPL : Hid ((placeF f c ins).cls.length = pn) := hpl.1
    have HQN : Hid (qn ≤ maxLen) := hqn
    have hpn := hpl.2
    obtain ⟨pv, hpv⟩ : ∃ pv, (placeF f c ins).vars = pv := ⟨_, rfl⟩
    rw [hpv]
    have HPV : Hid ((placeF f c ins).vars = pv) := hpv
    clear hE hO hpl hqn hpv
    have B_w : Hid (Below w.heap.size w w4) := below_on2 B_w.out hb
    have B_wa : Hid (Below wa.heap.size wa w4) := below_on2 B_wa.out hb
    have B_w1 : Hid (Below w1.heap.size w1 w4) := below_on2 B_w1.out hb
    have B_w2 : Hid (Below w2.heap.size w2 w4) := below_on2 B_w2.out hb
    have B_w3 : Hid (Below w3.heap.size w3 w4) := hb
    clear k0 k1 kl q0 q1 q2 ql
    clear hb
    have HSZ4 : Hid (w.heap.size ≤ w4.heap.size) := B_w.out.size
    go_wp2_with fail
    have RP : Hid (Row (World.alloc w4 (.cells #[.int .i64 pv, .slice PA pn pc] 30)) (w4.heap.size) 30 [.int .i64 pv, .slice PA pn pc]) := by
      have h0 := Row.new w4 30 [.int .i64 pv, .slice PA pn pc]
      try simp only [World.size_alloc] at h0
      exact h0
    have hgr9 : Below w4.heap.size w4 (World.alloc w4 (.cells #[.int .i64 pv, .slice PA pn pc] 30)) := by go_grown
    have B_w : Hid (Below w.heap.size w (World.alloc w4 (.cells #[.int .i64 pv, .slice PA pn pc] 30))) := below_on2 B_w.out hgr9
    have B_wa : Hid (Below wa.heap.size wa (World.alloc w4 (.cells #[.int .i64 pv, .slice PA pn pc] 30))) := below_on2 B_wa.out hgr9
    have B_w1 : Hid (Below w1.heap.size w1 (World.alloc w4 (.cells #[.int .i64 pv, .slice PA pn pc] 30))) := below_on2 B_w1.out hgr9
    have B_w2 : Hid (Below w2.heap.size w2 (World.alloc w4 (.cells #[.int .i64 pv, .slice PA pn pc] 30))) := below_on2 B_w2.out hgr9
    have B_w3 : Hid (Below w3.heap.size w3 (World.alloc w4 (.cells #[.int .i64 pv, .slice PA pn pc] 30))) := below_on2 B_w3.out hgr9
    have B_w4 : Hid (Below w4.heap.size w4 (World.alloc w4 (.cells #[.int .i64 pv, .slice PA pn pc] 30))) := hgr9
    clear hgr9
    revert RP B_w B_wa B_w1 B_w2 B_w3 B_w4
    generalize (World.alloc w4 (.cells #[.int .i64 pv, .slice PA pn pc] 30)) = w5
    intro RP B_w B_wa B_w1 B_w2 B_w3 B_w4
    have HCT := rFits_any pv PA pn pc w5 (by unfold maxLen; omega)
    have RZ5 : Hid (Row w5 (w.heap.size + 1 + 1) 30 [.int .i64 0, .slice none 0 0]) := (rowCells RZ.out B_wa.out)
    have EO5 : Hid (EOwn w5 w.heap.size w3.heap.size (.slice PA pn pc) sp (placeF f c ins).cls) := HE4.out.up HSZ4.out B_w4.out
    by_cases hft : pv ≤ 65536 ∧ pn ≤ 262144
    · have HCE : Hid (placeR f c ins = placeF f c ins ∧ placeOuts f c ins = placeO f c ins ∧ placeErr f c ins = 0) := placeGood HOK.out (by
        unfold fitsErr; rw [if_pos]; rw [HPV.out, HPL.out]; exact hft)
      rw [if_pos hft, if_pos hft] at HCT
      clear hft
      with_reducible refine HCT.mono ?_
      clear HCT
      rintro e w6 ⟨rfl, hG⟩
      have hb := grown_below hG
      have RZ9 : Hid (Row w6 (w.heap.size + 1 + 1) 30 [.int .i64 0, .slice none 0 0]) := rowCells RZ5.out hb
      have EO9 : Hid (EOwn w6 w.heap.size w3.heap.size (.slice PA pn pc) sp (placeF f c ins).cls) := EO5.out.up B_w.out.size hb
      have HO9 : Hid (World.ownsRow w6 w3.heap.size 3 1 (.slice QA qn qc) qn (ints (placeO f c ins))) := own_below (own_below HO4.out B_w4.out (Nat.le_refl _)) hb (Nat.le_refl _)
      have BW9 : Hid (Below w.heap.size w w6) := below_on2 B_w.out hb
      have HRES : Hid (PlaceAt (placeR f c ins) (placeOuts f c ins) (placeErr f c ins) w (.returned (.tuple #[.agg #[.int .i64 pv, .slice PA pn pc], .slice QA qn qc, .int .i64 0])) (World.alloc (World.setCell (World.setCell w6 ⟨w.heap.size + 1 + 1, 0, none⟩ (.int .i64 pv)) ⟨w.heap.size + 1 + 1, 1, none⟩ (.slice PA pn pc)) (.cells #[.int .i64 pv, .slice PA pn pc] 30))) := by
        have Z1 := RZ9.out.set 0 (.int .i64 pv)
        obtain ⟨q1, q2, q3⟩ := HCE.out
        show PlaceAt _ _ _ _ _ _
        rw [q1, q2, q3]
        have hB := (BW9.out.setCell (p := ⟨w.heap.size + 1 + 1, 0, none⟩) (by show _ ≤ w.heap.size + 1 + 1; omega) (.int .i64 pv)).setCell (p := ⟨w.heap.size + 1 + 1, 1, none⟩) (by show _ ≤ w.heap.size + 1 + 1; omega) (.slice PA pn pc)
        have hA : Below _ (World.setCell (World.setCell w6 ⟨w.heap.size + 1 + 1, 0, none⟩ (.int .i64 pv)) ⟨w.heap.size + 1 + 1, 1, none⟩ (.slice PA pn pc)) (World.alloc (World.setCell (World.setCell w6 ⟨w.heap.size + 1 + 1, 0, none⟩ (.int .i64 pv)) ⟨w.heap.size + 1 + 1, 1, none⟩ (.slice PA pn pc)) (.cells #[.int .i64 pv, .slice PA pn pc] 30)) := (Below.refl _ _).alloc (Nat.le_refl _) _
        refine ⟨PA, pn, pc, sp, QA, qn, qc, by rw [HPV.out], ?_, ?_, HQN.out, below_on2 hB hA⟩
        · exact (((EO9.out.far (p := ⟨w.heap.size + 1 + 1, 0, none⟩) RZ9.out (by decide) (by decide) (by show _ ≤ w.heap.size + 1 + 1; omega) (.int .i64 pv)).far (p := ⟨w.heap.size + 1 + 1, 1, none⟩) Z1 (by decide) (by decide) (by show _ ≤ w.heap.size + 1 + 1; omega) (.slice PA pn pc)).up hB.size hA).fat (Nat.le_trans hB.size hA.size) HPL.out (by unfold maxLen; omega)
        · exact Rd.of_own (own_below (own_set (p := ⟨w.heap.size + 1 + 1, 1, none⟩) (own_set (p := ⟨w.heap.size + 1 + 1, 0, none⟩) HO9.out RZ9.out (by decide) (.int .i64 pv)) Z1 (by decide) (.slice PA pn pc)) hA (Nat.le_refl _))
      have Z9 := ((RZ9.out.set 0 (.int .i64 pv)).set 1 (.slice PA pn pc)).alloc (.cells #[.int .i64 pv, .slice PA pn pc] 30)
      have q0 := Z9.cell 0
      have q1 := Z9.cell 1
      simp only [List.getElem?_cons_zero, List.getElem?_cons_succ, List.set_cons_zero, List.set_cons_succ] at q0 q1
      clear Z9 EO9 HO9 BW9 hb hG
      have d0 := RZ9.out.cell 0
      have d1 := RZ9.out.cell 1
      have dl := RZ9.out.lt
      simp only [List.getElem?_cons_zero, List.getElem?_cons_succ] at d0 d1
      have df0 := RZ9.out.frozen 0
      have df1 := RZ9.out.frozen 1
      clear RZ9
      go_wp2
      refine bodyPost_ret (v := .tuple #[.agg #[.int .i64 pv, .slice PA pn pc], .slice QA qn qc, .int .i64 0]) (by simp [results, Try.results16, go_sem, q0, q1]) rfl ?_
      exact HRES.out
    · have HCE : Hid (placeR f c ins = noFml ∧ placeOuts f c ins = [] ∧ placeErr f c ins = 6) := placeBig HOK.out (by
        unfold fitsErr; rw [if_neg]; rw [HPV.out, HPL.out]; exact hft)
      rw [if_neg hft, if_neg hft] at HCT
      clear hft
      with_reducible refine HCT.mono ?_
      clear HCT
      rintro e w6 ⟨rfl, hG⟩
      have hb := grown_below hG
      have RZ6 : Hid (Row w6 (w.heap.size + 1 + 1) 30 [.int .i64 0, .slice none 0 0]) := rowCells RZ5.out hb
      have BB : Below w.heap.size w w6 := below_on2 B_w.out hb
      clear hb hG
      have Z9 := ((RZ6.out.set 0 (.int .i64 0)).set 1 (.slice none 0 0)).alloc (.cells #[.int .i64 0, .slice none 0 0] 30)
      have q0 := Z9.cell 0
      have q1 := Z9.cell 1
      simp only [List.getElem?_cons_zero, List.getElem?_cons_succ, List.set_cons_zero, List.set_cons_succ] at q0 q1
      clear Z9
      have d0 := RZ6.out.cell 0
      have d1 := RZ6.out.cell 1
      have dl := RZ6.out.lt
      simp only [List.getElem?_cons_zero, List.getElem?_cons_succ] at d0 d1
      have df0 := RZ6.out.frozen 0
      have df1 := RZ6.out.frozen 1
      go_wp2
      exact bodyPost_ret (v := .tuple #[.agg #[.int .i64 0, .slice none 0 0], .slice none 0 0, .int .i64 6]) (by simp [results, Try.results16, go_sem, q0, q1]) rfl (placeAt_err HCE.out.1 HCE.out.2.1 HCE.out.2.2 (by go_grown))
  · have hne : ((k : Int) != c.inputs) = true := by simpa using hl
    have HCE : Hid (placeR f c ins = noFml ∧ placeOuts f c ins = [] ∧ placeErr f c ins = 2) := placeBad (by
      unfold placeOk
      rw [decide_eq_false (p := (ins.length : Int) = c.inputs) (by rw [HLI.out]; exact hl)]; simp)
    clear hr1 hr2 hl
    have qR : Hid (Row w2 (w.heap.size + 1) 25 [.int .i64 c.inputs, .slice GA gn gc, .slice OA on oc]) := (rowCells RC.out B_wa.out)
    have q0 := qR.out.cell 0
    have q1 := qR.out.cell 1
    have q2 := qR.out.cell 2
    have ql := qR.out.lt
    simp only [List.getElem?_cons_zero, List.getElem?_cons_succ] at q0 q1 q2
    clear qR
    have RZb : Hid (Row w2 (w.heap.size + 1 + 1) 30 [.int .i64 0, .slice none 0 0]) := (rowCells RZ.out B_wa.out)
    have d0 := RZb.out.cell 0
    have d1 := RZb.out.cell 1
    have dl := RZb.out.lt
    simp only [List.getElem?_cons_zero, List.getElem?_cons_succ] at d0 d1
    have df0 := RZb.out.frozen 0
    have df1 := RZb.out.frozen 1
    have BB := B_w.out
    go_wp2
    exact bodyPost_ret (v := .tuple #[.agg #[.int .i64 0, .slice none 0 0], .slice none 0 0, .int .i64 2]) (by simp [results, Try.results16, go_sem, d0, d1]) rfl (placeAt_err HCE.out.1 HCE.out.2.1 HCE.out.2.2 (by go_grown))
end Go.Proofs.Ytofflkfkakddkaa
