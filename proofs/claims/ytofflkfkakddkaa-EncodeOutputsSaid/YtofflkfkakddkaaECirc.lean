/-
  Circuit of the program and of the reference, walked.
-/
import Derived.Test.YtofflkfkakddkaaEPlace
import Derived.Test.YtofflkfkakddkaaERPlace
import Derived.Test.YtofflkfkakddkaaEPost
namespace Go.Proofs.Ytofflkfkakddkaa
open Go.RowKit
set_option linter.unusedSimpArgs false
set_option linter.unusedVariables false
theorem circBad {c : Circ} (h : rightC c = false) : circR c = noFml ∧ circErr c = 2 := by
  have h2 : circErr c = 2 := by unfold circErr; rw [h]; rfl
  exact ⟨by unfold circR; rw [h2]; rfl, h2⟩
theorem circOk {c : Circ} {inn : Nat} (h : rightC c = true) (hi : c.inputs = (inn : Int)) : placeOk ⟨c.inputs, []⟩ c (upto1 inn) = true := by
  obtain ⟨⟨p1, p2, _, _⟩, _, _⟩ := rightC_parts h
  refine place_ok (rightF_nil p1 (by omega)) h (upto1_length inn) hi.symm ?_
  show varsOk c.inputs _ = true
  rw [hi]; exact varsOk_upto1 inn
theorem circParts {c : Circ} {inn : Nat} (h : rightC c = true) (hi : c.inputs = (inn : Int)) : circErr c = fitsErr (placeF ⟨c.inputs, []⟩ c (upto1 inn)) ∧ (circErr c = 0 → circR c = placeF ⟨c.inputs, []⟩ c (upto1 inn)) ∧ (circErr c ≠ 0 → circR c = noFml) := by
  have e : c.inputs.toNat = inn := by omega
  refine ⟨?_, fun h0 => ?_, fun h0 => ?_⟩
  · unfold circErr; rw [if_pos h, e]
  · unfold circR; rw [if_pos h0, e]
  · unfold circR; rw [if_neg h0]
theorem nil_at (V : Int) (w : World) : FAt w ⟨V, []⟩ none 0 [] := ⟨Rd.empty none, rfl, fun i hi => absurd hi (Nat.not_lt_zero _), by unfold maxLen; omega⟩
set_option maxRecDepth 100000 in
set_option maxHeartbeats 10000000 in
theorem rCirc_any (c : Circ) (GA OA : Option Addr) (gn gc on oc : Nat) (w : World) (hc : CAt w c GA OA gn on) :
    Calls Try.prog 12 #[.agg #[.int .i64 c.inputs, .slice GA gn gc, .slice OA on oc]] w (FmlPost (circR c) (circErr c) w) := by
  have HC : Hid (CAt w c GA OA gn on) := hc
  have HLG : Hid (c.gates.length = gn) := hc.gl
  have hm1 := hc.g63
  have hm2 := hc.o63
  unfold maxLen at hm1 hm2
  clear hc
  go_enter Try.func12, Try.ntmps12
  go_wp2_with fail
  have RC : Hid (Row (World.alloc (World.alloc w (.cells #[.int .i64 c.inputs, .slice GA gn gc, .slice OA on oc] 25)) (.cells #[.int .i64 0, .slice none 0 0] 30)) (w.heap.size) 25 [.int .i64 c.inputs, .slice GA gn gc, .slice OA on oc]) := by
    have h0 := Row.new w 25 [.int .i64 c.inputs, .slice GA gn gc, .slice OA on oc]
    try simp only [World.size_alloc] at h0
    exact (h0.alloc _)
  have RZ : Hid (Row (World.alloc (World.alloc w (.cells #[.int .i64 c.inputs, .slice GA gn gc, .slice OA on oc] 25)) (.cells #[.int .i64 0, .slice none 0 0] 30)) (w.heap.size + 1) 30 [.int .i64 0, .slice none 0 0]) := by
    have h0 := Row.new (World.alloc w (.cells #[.int .i64 c.inputs, .slice GA gn gc, .slice OA on oc] 25)) 30 [.int .i64 0, .slice none 0 0]
    try simp only [World.size_alloc] at h0
    exact h0
  have hgr9 : Below w.heap.size w (World.alloc (World.alloc w (.cells #[.int .i64 c.inputs, .slice GA gn gc, .slice OA on oc] 25)) (.cells #[.int .i64 0, .slice none 0 0] 30)) := by go_grown
  have B_w : Hid (Below w.heap.size w (World.alloc (World.alloc w (.cells #[.int .i64 c.inputs, .slice GA gn gc, .slice OA on oc] 25)) (.cells #[.int .i64 0, .slice none 0 0] 30))) := hgr9
  clear hgr9
  revert RC RZ B_w
  generalize (World.alloc (World.alloc w (.cells #[.int .i64 c.inputs, .slice GA gn gc, .slice OA on oc] 25)) (.cells #[.int .i64 0, .slice none 0 0] 30)) = wa
  intro RC RZ B_w
  with_reducible refine (rRight_at c GA OA gn gc on oc wa (HC.out.up B_w.out)).mono ?_
  rintro e w1 ⟨rfl, hb⟩
  have B_w : Hid (Below w.heap.size w w1) := below_on2 B_w.out hb
  have B_wa : Hid (Below wa.heap.size wa w1) := hb
  clear hb
  cases hr : rightC c
  · have HCE : Hid (circR c = noFml ∧ circErr c = 2) := circBad hr
    clear hr
    have RZb : Hid (Row w1 (w.heap.size + 1) 30 [.int .i64 0, .slice none 0 0]) := (rowCells RZ.out B_wa.out)
    have d0 := RZb.out.cell 0
    have d1 := RZb.out.cell 1
    have dl := RZb.out.lt
    simp only [List.getElem?_cons_zero, List.getElem?_cons_succ] at d0 d1
    have df0 := RZb.out.frozen 0
    have df1 := RZb.out.frozen 1
    have BB := B_w.out
    go_wp2
    exact bodyPost_ret (v := .tuple #[.agg #[.int .i64 0, .slice none 0 0], .int .i64 2]) (by simp [results, Try.results12, go_sem, d0, d1]) rfl (fmlPost_err HCE.out.1 HCE.out.2 (by go_grown))
  have HR : Hid (rightC c = true) := hr
  obtain ⟨⟨p1, p2, p3, p4⟩, _, _⟩ := rightC_parts hr
  obtain ⟨inn, hin⟩ : ∃ inn : Nat, c.inputs = (inn : Int) := ⟨c.inputs.toNat, by omega⟩
  have HIN : Hid (c.inputs = (inn : Int)) := hin
  have hin1 : inn ≤ 1000 := by omega
  have HOK : Hid (placeOk ⟨c.inputs, []⟩ c (upto1 inn) = true) := circOk hr hin
  have HCE : Hid (circErr c = fitsErr (placeF ⟨c.inputs, []⟩ c (upto1 inn)) ∧ (circErr c = 0 → circR c = placeF ⟨c.inputs, []⟩ c (upto1 inn)) ∧ (circErr c ≠ 0 → circR c = noFml)) := circParts hr hin
  rw [hin] at RC ⊢
  clear hr hin p1 p2
  have kR : Hid (Row w1 (w.heap.size) 25 [.int .i64 (inn : Int), .slice GA gn gc, .slice OA on oc]) := (rowCells RC.out B_wa.out)
  have k0 := kR.out.cell 0
  have k1 := kR.out.cell 1
  have k2 := kR.out.cell 2
  have kl := kR.out.lt
  simp only [List.getElem?_cons_zero, List.getElem?_cons_succ] at k0 k1 k2
  clear kR
  go_wp2
  clear k0 k1 k2 kl
  go_loopg [4, 5] inn (fun gg s4 s5 wr => ∃ (j : Nat) (v : Value), j ≤ inn ∧ inn - j ≤ gg ∧ s5 = .int .i64 ((j : Int) + 1) ∧ s4 = v ∧ Aside (Below w1.heap.size w1 wr) ∧ Aside (wr.ownsRow w1.heap.size 3 1 v j (ints (upto1 j))))
  case atStart => exact ⟨0, _, Nat.zero_le _, by omega, rfl, rfl, Below.refl _ _, World.ownsRow_nil _ _ _ _⟩
  case round =>
    obtain ⟨j, v, hj, hgj, rfl, rfl, BN, OW⟩ := hrel
    have RCr : Hid (Row wr w.heap.size 25 [.int .i64 (inn : Int), .slice GA gn gc, .slice OA on oc]) := rowCells (rowCells RC.out B_wa.out) BN.out
    have k0 := RCr.out.cell 0
    have k1 := RCr.out.cell 1
    have k2 := RCr.out.cell 2
    have kl := RCr.out.lt
    simp only [List.getElem?_cons_zero, List.getElem?_cons_succ] at k0 k1 k2
    obtain ⟨XB, xd, rfl, _⟩ := Rd.own OW.out
    by_cases hlj : j < inn
    · have hljz : (j : Int) + 1 ≤ (inn : Int) := by omega
      have hb8 := BN.out.size
      go_wp2_with (at_builtin; refine wpList_app rfl (.tmp 18) (.tmp 20) 23 rfl w1.heap.size 3 (.int .i64 0) 1 8 Try.underlying23 int_infoE rfl (by decide) (by decide) (.slice XB j xd) (j) (ints (upto1 j)) rfl ?own (wr.heap.size + 1) (some ⟨wr.heap.size, 0, none⟩) 1 1 [.int .i64 ((j : Int) + 1)] rfl ?rd ?one ?hb ?hbase ?_)
      case own => exact (OW.out).alloc _
      case rd => exact Rd.lit wr #[.int .i64 ((j : Int) + 1)] 3 (sz := 1) (m := 1) rfl
      case one => first | (intro u hu; simp at hu; subst hu; rfl) | rfl
      case hb => omega
      case hbase => first | (simp; omega) | omega
      intro v' w' hown' hgrow' hat'
      have HOn : Hid (w'.ownsRow w1.heap.size 3 1 v' (j + 1) (ints (upto1 (j + 1)))) := (by show World.ownsRow _ _ _ _ _ _ _; rw [show ints (upto1 (j + 1)) = ints (upto1 j) ++ [.int .i64 ((j : Int) + 1)] by rw [upto1_succ]; simp [ints]]; exact hown')
      have HBn : Hid (Below w1.heap.size w1 w') := (BN.out.alloc hb8 _).grown hgrow' (by simp; omega) (fun q hq => (OW.out.lt q hq).1)
      clear hown' hgrow' hat' hb8 k0 k1 k2 kl
      go_wp2
      go_roundg (inn - (j + 1))
      case measure => omega
      case rel => exact ⟨j + 1, v', by omega, by omega, by go_num, rfl, HBn.out, HOn.out⟩
    · have hljz : ¬ (j : Int) + 1 ≤ (inn : Int) := by omega
      obtain rfl : inn = j := by omega
      have BWr : Hid (Below w.heap.size w wr) := below_on2 B_w.out BN.out
      have RZr : Hid (Row wr (w.heap.size + 1) 30 [.int .i64 0, .slice none 0 0]) := rowCells (rowCells RZ.out B_wa.out) BN.out
      have HI : Hid (Rd wr wr.heap.size 1 XB inn (ints (upto1 inn))) := Rd.of_own OW.out
      go_wp2_with fail
      have HCT := rPlaceF_any ⟨c.inputs, []⟩ c (upto1 inn) none GA OA XB 0 0 gn gc on oc inn xd [] wr (nil_at _ _) (HC.out.up BWr.out) HI.out HOK.out w.heap.size BWr.out.size (fun i hi => absurd hi (Nat.not_lt_zero _))
      rw [show (⟨c.inputs, []⟩ : Fml).vars = (inn : Int) from HIN.out, HIN.out] at HCT
      with_reducible refine HCT.mono ?_
      clear HCT
      rintro e w4 ⟨PA, pn, pc, sp, QA, qn, qc, rfl, hpl, hE, hO, hqn, hb⟩
      have HE4 : Hid (EOwn w4 w.heap.size wr.heap.size (.slice PA pn pc) sp (placeF ⟨(inn : Int), []⟩ c (upto1 inn)).cls) := hE
      have HPL : Hid ((placeF ⟨(inn : Int), []⟩ c (upto1 inn)).cls.length = pn) := hpl.1
      have hpn := hpl.2
      obtain ⟨pv, hpv⟩ : ∃ pv, (placeF ⟨(inn : Int), []⟩ c (upto1 inn)).vars = pv := ⟨_, rfl⟩
      rw [hpv]
      have HPV : Hid ((placeF ⟨(inn : Int), []⟩ c (upto1 inn)).vars = pv) := hpv
      have BW4 : Hid (Below w.heap.size w w4) := below_on2 BWr.out hb
      have RZ4 : Hid (Row w4 (w.heap.size + 1) 30 [.int .i64 0, .slice none 0 0]) := rowCells RZr.out hb
      clear hE hO hpl hqn hpv hb RCr k0 k1 k2 kl BWr RZr HI OW BN
      rw [HIN.out] at HCE
      go_wp2_with fail
      have RP5 : Hid (Row (World.alloc w4 (.cells #[.int .i64 pv, .slice PA pn pc] 30)) w4.heap.size 30 [.int .i64 pv, .slice PA pn pc]) := Row.new w4 30 [.int .i64 pv, .slice PA pn pc]
      have RZ5 : Hid (Row (World.alloc w4 (.cells #[.int .i64 pv, .slice PA pn pc] 30)) (w.heap.size + 1) 30 [.int .i64 0, .slice none 0 0]) := RZ4.out.alloc _
      have EO5 : Hid (EOwn (World.alloc w4 (.cells #[.int .i64 pv, .slice PA pn pc] 30)) w.heap.size wr.heap.size (.slice PA pn pc) sp (placeF ⟨(inn : Int), []⟩ c (upto1 inn)).cls) := HE4.out.up BW4.out.size ((Below.refl _ _).alloc (Nat.le_refl _) _)
      have BW5 : Hid (Below w.heap.size w (World.alloc w4 (.cells #[.int .i64 pv, .slice PA pn pc] 30))) := BW4.out.alloc BW4.out.size _
      clear HE4 RZ4 BW4
      revert RP5 RZ5 EO5 BW5
      generalize (World.alloc w4 (.cells #[.int .i64 pv, .slice PA pn pc] 30)) = w5
      intro RP5 RZ5 EO5 BW5
      have HCT := rFits_any pv PA pn pc w5 (by unfold maxLen; omega)
      by_cases hft : pv ≤ 65536 ∧ pn ≤ 262144
      · have HC2 : Hid (circR c = placeF ⟨(inn : Int), []⟩ c (upto1 inn) ∧ circErr c = 0) := (by
          have h0 : circErr c = 0 := by rw [HCE.out.1]; unfold fitsErr; rw [if_pos]; rw [HPV.out, HPL.out]; exact hft
          exact ⟨HCE.out.2.1 h0, h0⟩)
        rw [if_pos hft, if_pos hft] at HCT
        clear hft
        with_reducible refine HCT.mono ?_
        clear HCT
        rintro e w6 ⟨rfl, hG⟩
        have hb := grown_bel hG
        have RZ9 : Hid (Row w6 (w.heap.size + 1) 30 [.int .i64 0, .slice none 0 0]) := rowCells RZ5.out hb
        have EO9 : Hid (EOwn w6 w.heap.size wr.heap.size (.slice PA pn pc) sp (placeF ⟨(inn : Int), []⟩ c (upto1 inn)).cls) := EO5.out.up BW5.out.size hb
        have BW9 : Hid (Below w.heap.size w w6) := below_on2 BW5.out hb
        have HRES : Hid (FmlPost (circR c) (circErr c) w (.returned (.tuple #[.agg #[.int .i64 pv, .slice PA pn pc], .int .i64 0])) (World.setCell (World.setCell w6 ⟨w.heap.size + 1, 0, none⟩ (.int .i64 pv)) ⟨w.heap.size + 1, 1, none⟩ (.slice PA pn pc))) := by
          have Z1 := RZ9.out.set 0 (.int .i64 pv)
          obtain ⟨q1, q2⟩ := HC2.out
          show FmlPost _ _ _ _ _
          rw [q1, q2]
          have hB := (BW9.out.setCell (p := ⟨w.heap.size + 1, 0, none⟩) (by show _ ≤ w.heap.size + 1; omega) (.int .i64 pv)).setCell (p := ⟨w.heap.size + 1, 1, none⟩) (by show _ ≤ w.heap.size + 1; omega) (.slice PA pn pc)
          refine ⟨PA, pn, pc, sp, by rw [HPV.out], ?_, hB⟩
          exact ((EO9.out.far (p := ⟨w.heap.size + 1, 0, none⟩) RZ9.out (by decide) (by decide) (by show _ ≤ w.heap.size + 1; omega) (.int .i64 pv)).far (p := ⟨w.heap.size + 1, 1, none⟩) Z1 (by decide) (by decide) (by show _ ≤ w.heap.size + 1; omega) (.slice PA pn pc)).fat hB.size HPL.out (by unfold maxLen; omega)
        have Z9 := (RZ9.out.set 0 (.int .i64 pv)).set 1 (.slice PA pn pc)
        have q0 := Z9.cell 0
        have q1 := Z9.cell 1
        simp only [List.getElem?_cons_zero, List.getElem?_cons_succ, List.set_cons_zero, List.set_cons_succ] at q0 q1
        clear Z9 EO9 BW9 hb hG
        have d0 := RZ9.out.cell 0
        have d1 := RZ9.out.cell 1
        have dl := RZ9.out.lt
        simp only [List.getElem?_cons_zero, List.getElem?_cons_succ] at d0 d1
        have df0 := RZ9.out.frozen 0
        have df1 := RZ9.out.frozen 1
        clear RZ9
        go_wp2
        refine bodyPost_ret (v := .tuple #[.agg #[.int .i64 pv, .slice PA pn pc], .int .i64 0]) (by simp [results, Try.results12, go_sem, q0, q1]) rfl ?_
        exact HRES.out
      · have HC2 : Hid (circR c = noFml ∧ circErr c = 6) := (by
          have h0 : circErr c = 6 := by rw [HCE.out.1]; unfold fitsErr; rw [if_neg]; rw [HPV.out, HPL.out]; exact hft
          exact ⟨HCE.out.2.2 (by rw [h0]; decide), h0⟩)
        rw [if_neg hft, if_neg hft] at HCT
        clear hft
        with_reducible refine HCT.mono ?_
        clear HCT
        rintro e w6 ⟨rfl, hG⟩
        have hb := grown_bel hG
        have RZ6 : Hid (Row w6 (w.heap.size + 1) 30 [.int .i64 0, .slice none 0 0]) := rowCells RZ5.out hb
        have BB : Below w.heap.size w w6 := below_on2 BW5.out hb
        clear hb hG
        have d0 := RZ6.out.cell 0
        have d1 := RZ6.out.cell 1
        have dl := RZ6.out.lt
        simp only [List.getElem?_cons_zero, List.getElem?_cons_succ] at d0 d1
        have df0 := RZ6.out.frozen 0
        have df1 := RZ6.out.frozen 1
        go_wp2
        exact bodyPost_ret (v := .tuple #[.agg #[.int .i64 0, .slice none 0 0], .int .i64 6]) (by simp [results, Try.results12, go_sem, d0, d1]) rfl (fmlPost_err HC2.out.1 HC2.out.2 (by go_grown))
theorem ints_setE (zs : List Int) (k : Nat) (z : Int) : (ints zs).set k (.int .i64 z) = ints (zs.set k z) := by simp [ints, List.map_set]
/-- 1, 2, .. k and zeros. -/
def uptoZ (n k : Nat) : List Int := upto1 k ++ List.replicate (n - k) 0
theorem uptoZ_length {n k : Nat} (h : k ≤ n) : (uptoZ n k).length = n := by simp [uptoZ, upto1_length]; omega
theorem uptoZ_set {n k : Nat} (h : k < n) : (uptoZ n k).set k ((k : Int) + 1) = uptoZ n (k + 1) := by
  unfold uptoZ
  rw [List.set_append_right _ _ (by rw [upto1_length]; omega), upto1_length, Nat.sub_self, upto1_succ, List.append_assoc]
  congr 1
  obtain ⟨m, hm⟩ : ∃ m, n - k = m + 1 := ⟨n - k - 1, by omega⟩
  rw [hm, show n - (k + 1) = m by omega, List.replicate_succ]; rfl
set_option maxRecDepth 100000 in
set_option maxHeartbeats 10000000 in
theorem eCirc_any (c : Circ) (GA OA : Option Addr) (gn gc on oc : Nat) (w : World) (hc : CAt w c GA OA gn on) :
    Calls Try.prog 11 #[.agg #[.int .i64 c.inputs, .slice GA gn gc, .slice OA on oc]] w (FmlPost (circR c) (circErr c) w) := by
  have HC : Hid (CAt w c GA OA gn on) := hc
  have HLG : Hid (c.gates.length = gn) := hc.gl
  have hm1 := hc.g63
  have hm2 := hc.o63
  unfold maxLen at hm1 hm2
  clear hc
  go_enter Try.func11, Try.ntmps11
  go_wp2_with fail
  have RC : Hid (Row (World.alloc (World.alloc w (.cells #[.int .i64 c.inputs, .slice GA gn gc, .slice OA on oc] 25)) (.cells #[.int .i64 0, .slice none 0 0] 30)) (w.heap.size) 25 [.int .i64 c.inputs, .slice GA gn gc, .slice OA on oc]) := by
    have h0 := Row.new w 25 [.int .i64 c.inputs, .slice GA gn gc, .slice OA on oc]
    try simp only [World.size_alloc] at h0
    exact (h0.alloc _)
  have RZ : Hid (Row (World.alloc (World.alloc w (.cells #[.int .i64 c.inputs, .slice GA gn gc, .slice OA on oc] 25)) (.cells #[.int .i64 0, .slice none 0 0] 30)) (w.heap.size + 1) 30 [.int .i64 0, .slice none 0 0]) := by
    have h0 := Row.new (World.alloc w (.cells #[.int .i64 c.inputs, .slice GA gn gc, .slice OA on oc] 25)) 30 [.int .i64 0, .slice none 0 0]
    try simp only [World.size_alloc] at h0
    exact h0
  have hgr9 : Below w.heap.size w (World.alloc (World.alloc w (.cells #[.int .i64 c.inputs, .slice GA gn gc, .slice OA on oc] 25)) (.cells #[.int .i64 0, .slice none 0 0] 30)) := by go_grown
  have B_w : Hid (Below w.heap.size w (World.alloc (World.alloc w (.cells #[.int .i64 c.inputs, .slice GA gn gc, .slice OA on oc] 25)) (.cells #[.int .i64 0, .slice none 0 0] 30))) := hgr9
  clear hgr9
  revert RC RZ B_w
  generalize (World.alloc (World.alloc w (.cells #[.int .i64 c.inputs, .slice GA gn gc, .slice OA on oc] 25)) (.cells #[.int .i64 0, .slice none 0 0] 30)) = wa
  intro RC RZ B_w
  with_reducible refine (right_at c GA OA gn gc on oc wa (HC.out.up B_w.out)).mono ?_
  rintro e w1 ⟨rfl, hb⟩
  have B_w : Hid (Below w.heap.size w w1) := below_on2 B_w.out hb
  have B_wa : Hid (Below wa.heap.size wa w1) := hb
  clear hb
  cases hr : rightC c
  · have HCE : Hid (circR c = noFml ∧ circErr c = 2) := circBad hr
    clear hr
    have RZb : Hid (Row w1 (w.heap.size + 1) 30 [.int .i64 0, .slice none 0 0]) := (rowCells RZ.out B_wa.out)
    have d0 := RZb.out.cell 0
    have d1 := RZb.out.cell 1
    have dl := RZb.out.lt
    simp only [List.getElem?_cons_zero, List.getElem?_cons_succ] at d0 d1
    have df0 := RZb.out.frozen 0
    have df1 := RZb.out.frozen 1
    have BB := B_w.out
    go_wp2
    exact bodyPost_ret (v := .tuple #[.agg #[.int .i64 0, .slice none 0 0], .int .i64 2]) (by simp [results, Try.results11, go_sem, d0, d1]) rfl (fmlPost_err HCE.out.1 HCE.out.2 (by go_grown))
  have HR : Hid (rightC c = true) := hr
  obtain ⟨⟨p1, p2, p3, p4⟩, _, _⟩ := rightC_parts hr
  obtain ⟨inn, hin⟩ : ∃ inn : Nat, c.inputs = (inn : Int) := ⟨c.inputs.toNat, by omega⟩
  have HIN : Hid (c.inputs = (inn : Int)) := hin
  have hin1 : inn ≤ 1000 := by omega
  have HOK : Hid (placeOk ⟨c.inputs, []⟩ c (upto1 inn) = true) := circOk hr hin
  have HCE : Hid (circErr c = fitsErr (placeF ⟨c.inputs, []⟩ c (upto1 inn)) ∧ (circErr c = 0 → circR c = placeF ⟨c.inputs, []⟩ c (upto1 inn)) ∧ (circErr c ≠ 0 → circR c = noFml)) := circParts hr hin
  rw [hin] at RC ⊢
  clear hr hin p1 p2
  have hmk := fun W => make_like (P := Try.prog) Try.underlying23 int_infoE rfl inn (inn : Int) rfl (by omega) (by omega) W
  have kR : Hid (Row w1 (w.heap.size) 25 [.int .i64 (inn : Int), .slice GA gn gc, .slice OA on oc]) := (rowCells RC.out B_wa.out)
  have k0 := kR.out.cell 0
  have k1 := kR.out.cell 1
  have k2 := kR.out.cell 2
  have kl := kR.out.lt
  simp only [List.getElem?_cons_zero, List.getElem?_cons_succ] at k0 k1 k2
  clear kR
  go_wp2
  have RV2 : Hid (Row (World.alloc w1 (.cells (likeRow (Value.int .i64 0) inn) 3)) w1.heap.size 3 (ints (uptoZ inn 0))) := by
    have e : ints (uptoZ inn 0) = List.replicate inn (Value.int .i64 0) := by simp [uptoZ, upto1, ints]
    rw [e]
    exact Row.new w1 3 (List.replicate inn (Value.int .i64 0))
  have RZ2 : Hid (Row (World.alloc w1 (.cells (likeRow (Value.int .i64 0) inn) 3)) (w.heap.size + 1) 30 [.int .i64 0, .slice none 0 0]) := Row.alloc (rowCells RZ.out B_wa.out) _
  have RC2 : Hid (Row (World.alloc w1 (.cells (likeRow (Value.int .i64 0) inn) 3)) w.heap.size 25 [.int .i64 (inn : Int), .slice GA gn gc, .slice OA on oc]) := Row.alloc (rowCells RC.out B_wa.out) _
  have BW2 : Hid (Below w.heap.size w (World.alloc w1 (.cells (likeRow (Value.int .i64 0) inn) 3))) := B_w.out.alloc B_w.out.size _
  have hgv : w.heap.size + 1 < w1.heap.size := (show Row w1 _ _ _ from (rowCells RZ.out B_wa.out)).lt
  clear k0 k1 k2 kl
  clear hmk RZ RC B_w B_wa
  revert RV2 RZ2 RC2 BW2
  generalize World.alloc w1 (.cells (likeRow (Value.int .i64 0) inn) 3) = w2
  revert hgv
  generalize w1.heap.size = gv
  intro hgv RV2 RZ2 RC2 BW2
  go_loopg [5, 18] inn (fun gg _ s18 wr => ∃ (j : Nat), j ≤ inn ∧ inn - j ≤ gg ∧ s18 = .int .i64 (j : Int) ∧ Aside (Below w.heap.size w wr) ∧ Aside (Row wr (w.heap.size + 1) 30 [.int .i64 0, .slice none 0 0]) ∧ Aside (Row wr w.heap.size 25 [.int .i64 (inn : Int), .slice GA gn gc, .slice OA on oc]) ∧ Aside (Row wr gv 3 (ints (uptoZ inn j))))
  case atStart => exact ⟨0, Nat.zero_le _, by omega, rfl, BW2.out, RZ2.out, RC2.out, RV2.out⟩
  case round =>
    clear BW2 RZ2 RC2 RV2
    obtain ⟨j, hj, hgj, rfl, BW, RZ, RC, RV⟩ := hrel
    by_cases hlj : j < inn
    · have hljz : (j : Int) < (inn : Int) := by omega
      have hcv := RV.out.cell j
      rw [ints_get _ _ (by rw [uptoZ_length hj]; exact hlj)] at hcv
      have hfv := RV.out.frozen j
      have hlv := RV.out.lt
      generalize (uptoZ inn j).getD j 0 = old at hcv
      go_wp2
      go_roundg (inn - (j + 1))
      case measure => omega
      case rel =>
        refine ⟨j + 1, by omega, by omega, by go_num, BW.out.setCell (p := ⟨gv, j, none⟩) (by show _ ≤ gv; omega) _, RZ.out.far (p := ⟨gv, j, none⟩) (by show w.heap.size + 1 ≠ gv; omega) _, RC.out.far (p := ⟨gv, j, none⟩) (by show w.heap.size ≠ gv; omega) _, (show Row _ _ _ _ from ?_)⟩
        rw [← uptoZ_set hlj, ← ints_setE]
        exact RV.out.set j _
    · have hljz : ¬ (j : Int) < (inn : Int) := by omega
      obtain rfl : inn = j := by omega
      have HI : Hid (Rd wr wr.heap.size 1 (some ⟨gv, 0, none⟩) inn (ints (upto1 inn))) := (by
        have h9 := RV.out
        rw [show uptoZ inn inn = upto1 inn by simp [uptoZ]] at h9
        exact h9.rd (by rw [ints_length, upto1_length, Nat.mul_one]))
      have BWr : Hid (Below w.heap.size w wr) := BW.out
      have RZr : Hid (Row wr (w.heap.size + 1) 30 [.int .i64 0, .slice none 0 0]) := RZ.out
      have k0 := RC.out.cell 0
      have k1 := RC.out.cell 1
      have k2 := RC.out.cell 2
      have kl := RC.out.lt
      simp only [List.getElem?_cons_zero, List.getElem?_cons_succ] at k0 k1 k2
      clear BW RZ RV
      go_wp2_with fail
      have HCT := ePlace_any ⟨c.inputs, []⟩ c (upto1 inn) none GA OA (some ⟨gv, 0, none⟩) 0 0 gn gc on oc inn inn [] wr (nil_at _ _) (HC.out.up BWr.out) HI.out (by unfold maxLen; omega) w.heap.size BWr.out.size (fun i hi => absurd hi (Nat.not_lt_zero _))
      have e1 := (circ_place c).1
      have e2 := (circ_place c).2
      rw [show c.inputs.toNat = inn by have := HIN.out; omega] at e1 e2
      rw [e1, e2, show (⟨c.inputs, []⟩ : Fml).vars = (inn : Int) from HIN.out, HIN.out] at HCT
      clear e1 e2
      with_reducible refine HCT.mono ?_
      clear HCT
      rintro e w4 ⟨PA, pn, pc, sp, QA, qn, qc, rfl, hpl, hE, hO, hqn, hb⟩
      have HE4 : Hid (EOwn w4 w.heap.size wr.heap.size (.slice PA pn pc) sp (circR c).cls) := hE
      have HPL : Hid ((circR c).cls.length = pn ∧ pn ≤ maxLen) := hpl
      obtain ⟨pv, hpv⟩ : ∃ pv, (circR c).vars = pv := ⟨_, rfl⟩
      rw [hpv]
      have HPV : Hid ((circR c).vars = pv) := hpv
      generalize hk9 : circErr c = ke
      have HKE : Hid (circErr c = ke) := hk9
      have BW4 : Hid (Below w.heap.size w w4) := below_on2 BWr.out hb
      have RZ4 : Hid (Row w4 (w.heap.size + 1) 30 [.int .i64 0, .slice none 0 0]) := rowCells RZr.out hb
      clear hE hO hpl hqn hpv hb k0 k1 k2 kl BWr RZr HI RC hk9
      have HRES : Hid (FmlPost (circR c) ke w (.returned (.tuple #[.agg #[.int .i64 pv, .slice PA pn pc], .int .i64 ke])) (World.alloc (World.setCell (World.setCell w4 ⟨w.heap.size + 1, 0, none⟩ (.int .i64 pv)) ⟨w.heap.size + 1, 1, none⟩ (.slice PA pn pc)) (.cells #[.int .i64 pv, .slice PA pn pc] 30))) := by
        have Z1 := RZ4.out.set 0 (.int .i64 pv)
        have hB := (BW4.out.setCell (p := ⟨w.heap.size + 1, 0, none⟩) (by show _ ≤ w.heap.size + 1; omega) (.int .i64 pv)).setCell (p := ⟨w.heap.size + 1, 1, none⟩) (by show _ ≤ w.heap.size + 1; omega) (.slice PA pn pc)
        have hA : Below _ (World.setCell (World.setCell w4 ⟨w.heap.size + 1, 0, none⟩ (.int .i64 pv)) ⟨w.heap.size + 1, 1, none⟩ (.slice PA pn pc)) (World.alloc (World.setCell (World.setCell w4 ⟨w.heap.size + 1, 0, none⟩ (.int .i64 pv)) ⟨w.heap.size + 1, 1, none⟩ (.slice PA pn pc)) (.cells #[.int .i64 pv, .slice PA pn pc] 30)) := (Below.refl _ _).alloc (Nat.le_refl _) _
        refine ⟨PA, pn, pc, sp, by rw [HPV.out], ?_, below_on2 hB hA⟩
        exact (((HE4.out.far (p := ⟨w.heap.size + 1, 0, none⟩) RZ4.out (by decide) (by decide) (by show _ ≤ w.heap.size + 1; omega) (.int .i64 pv)).far (p := ⟨w.heap.size + 1, 1, none⟩) Z1 (by decide) (by decide) (by show _ ≤ w.heap.size + 1; omega) (.slice PA pn pc)).up hB.size hA).fat (Nat.le_trans hB.size hA.size) HPL.out.1 HPL.out.2
      have Z9 := ((RZ4.out.set 0 (.int .i64 pv)).set 1 (.slice PA pn pc)).alloc (.cells #[.int .i64 pv, .slice PA pn pc] 30)
      have q0 := Z9.cell 0
      have q1 := Z9.cell 1
      simp only [List.getElem?_cons_zero, List.getElem?_cons_succ, List.set_cons_zero, List.set_cons_succ] at q0 q1
      clear Z9 HE4 BW4
      have d0 := RZ4.out.cell 0
      have d1 := RZ4.out.cell 1
      have dl := RZ4.out.lt
      simp only [List.getElem?_cons_zero, List.getElem?_cons_succ] at d0 d1
      have df0 := RZ4.out.frozen 0
      have df1 := RZ4.out.frozen 1
      clear RZ4
      go_wp2
      refine bodyPost_ret (v := .tuple #[.agg #[.int .i64 pv, .slice PA pn pc], .int .i64 ke]) (by simp [results, Try.results11, go_sem, q0, q1]) rfl ?_
      rw [HKE.out]
      exact HRES.out
end Go.Proofs.Ytofflkfkakddkaa
