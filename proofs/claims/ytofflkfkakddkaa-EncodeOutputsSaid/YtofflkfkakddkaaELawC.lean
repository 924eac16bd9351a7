/-
  EncodeCircuits, walked.
-/
import Derived.Test.YtofflkfkakddkaaEAwake
import Derived.Test.YtofflkfkakddkaaEHoldsW
import Derived.Test.YtofflkfkakddkaaCRefVals
namespace Go.Proofs.Ytofflkfkakddkaa
open Go.RowKit
set_option linter.unusedSimpArgs false
set_option linter.unusedVariables false
theorem circ_right {c : Circ} (h : circErr c = 0) : rightC c = true := by
  cases hr : rightC c
  · have := (circBad hr).2
    rw [h] at this
    exact absurd this (by decide)
  · rfl
theorem place_small {c : Circ} {inn : Nat} {ins : List Int} (hr : rightC c = true) (hi : c.inputs = (inn : Int)) (hl : ins.length = inn) (hg : c.gates.length ≤ 200)
    (hw : ∀ w, w < inn + c.gates.length → 1 ≤ (wiresV inn ins c.gates.length).getD w 0 ∧ (wiresV inn ins c.gates.length).getD w 0 ≤ (inn : Int) + c.gates.length) :
    rightF (placeF ⟨(inn : Int), []⟩ c ins) = true ∧ fitsErr (placeF ⟨(inn : Int), []⟩ c ins) = 0 ∧ (placeF ⟨(inn : Int), []⟩ c ins).cls = placeTo inn ins c.gates c.gates.length ∧ (placeF ⟨(inn : Int), []⟩ c ins).cls.length ≤ 800 := by
  obtain ⟨⟨p1, p2, p3, p4⟩, pg, _⟩ := rightC_parts hr
  have hln := placeTo_len (inn : Int) ins c.gates c.gates.length
  have hcl : (placeF ⟨(inn : Int), []⟩ c ins).cls = placeTo inn ins c.gates c.gates.length := by unfold placeF; rw [List.nil_append]
  have hlen : (placeF ⟨(inn : Int), []⟩ c ins).cls.length ≤ 800 := by rw [hcl]; omega
  have hvs : (placeF ⟨(inn : Int), []⟩ c ins).vars = (inn : Int) + c.gates.length := rfl
  refine ⟨?_, ?_, hcl, hlen⟩
  · unfold rightF sizesF
    rw [Bool.and_eq_true, decide_eq_true_eq]
    refine ⟨⟨by rw [hvs]; omega, by rw [hvs]; omega, by omega⟩, ?_⟩
    rw [hcl, hvs]
    refine placeTo_right (fun i h => by rw [hl, ← hi]; exact pg i h) (fun w h => hw w (by rw [hl] at h; exact h)) _ (Nat.le_refl _)
  · unfold fitsErr
    rw [if_pos ⟨by rw [hvs]; omega, by omega⟩]
theorem upto_wires (n k w : Nat) (h : w < n + k) : 1 ≤ (wiresV n (upto1 n) k).getD w 0 ∧ (wiresV n (upto1 n) k).getD w 0 ≤ (n : Int) + k := by
  rw [wiresV_upto1, upto1_getD _ _ h]; omega

set_option maxRecDepth 100000 in
set_option maxHeartbeats 4000000 in
theorem encodeCircuits_walk (c : Circ) (GA OA : Option Addr) (gn gc on oc : Nat) (w : World) (hc : CAt w c GA OA gn on) :
    Calls Try.prog 3 #[.agg #[.int .i64 c.inputs, .slice GA gn gc, .slice OA on oc]] w fun e w' => e = .returned (.bool true) ∧ Below w.heap.size w w' := by
  have HC : Hid (CAt w c GA OA gn on) := hc
  have hm1 := hc.g63
  have hm2 := hc.o63
  unfold maxLen at hm1 hm2
  clear hc
  go_enter Try.func3, Try.ntmps3
  go_wp2_with fail
  have RC : Hid (Row (World.alloc w (.cells #[.int .i64 c.inputs, .slice GA gn gc, .slice OA on oc] 25)) (w.heap.size) 25 [.int .i64 c.inputs, .slice GA gn gc, .slice OA on oc]) := by
    have h0 := Row.new w 25 [.int .i64 c.inputs, .slice GA gn gc, .slice OA on oc]
    try simp only [World.size_alloc] at h0
    exact h0
  have hgr9 : Below w.heap.size w (World.alloc w (.cells #[.int .i64 c.inputs, .slice GA gn gc, .slice OA on oc] 25)) := by go_grown
  have B_w : Hid (Below w.heap.size w (World.alloc w (.cells #[.int .i64 c.inputs, .slice GA gn gc, .slice OA on oc] 25))) := hgr9
  clear hgr9
  revert RC B_w
  generalize (World.alloc w (.cells #[.int .i64 c.inputs, .slice GA gn gc, .slice OA on oc] 25)) = wa
  intro RC B_w
  refine (few17_any c GA OA gn gc on oc wa (HC.out.up B_w.out)).mono ?_
  rintro e w1 ⟨rfl, hb⟩
  have B_w : Hid (Below w.heap.size w w1) := below_on2 B_w.out hb
  have B_wa : Hid (Below wa.heap.size wa w1) := hb
  clear hb
  cases hfw : fewC c
  · clear hfw
    go_wp2_with fail
    refine (alive_any w1).mono ?_
    rintro e w9 ⟨rfl, hb⟩
    have HBE : Hid (Below w.heap.size w w9) := below_on2 B_w.out hb
    clear hb
    go_wp2
    go_ret
    exact ⟨rfl, HBE.out⟩
  clear hfw
  have kR : Hid (Row w1 (w.heap.size) 25 [.int .i64 c.inputs, .slice GA gn gc, .slice OA on oc]) := (rowCells RC.out B_wa.out)
  have k0 := kR.out.cell 0
  have k1 := kR.out.cell 1
  have k2 := kR.out.cell 2
  have kl := kR.out.lt
  simp only [List.getElem?_cons_zero, List.getElem?_cons_succ] at k0 k1 k2
  clear kR
  go_wp2_with fail
  with_reducible refine (eCirc_any c GA OA gn gc on oc w1 (HC.out.up B_w.out)).mono ?_
  rintro e w2 ⟨XA, xn, xc, sx, rfl, hfa, hb⟩
  have HX : Hid (FAt w2 (circR c) XA xn sx) := hfa
  obtain ⟨pv, hpv⟩ : ∃ pv, (circR c).vars = pv := ⟨_, rfl⟩
  obtain ⟨ke, hke⟩ : ∃ ke, circErr c = ke := ⟨_, rfl⟩
  have HPV : Hid ((circR c).vars = pv) := hpv
  have HKE : Hid (circErr c = ke) := hke
  rw [hpv, hke]
  clear hfa hpv hke
  have B_w : Hid (Below w.heap.size w w2) := below_on2 B_w.out hb
  have B_wa : Hid (Below wa.heap.size wa w2) := below_on2 B_wa.out hb
  have B_w1 : Hid (Below w1.heap.size w1 w2) := hb
  clear k0 k1 k2 kl
  clear hb
  have kR : Hid (Row w2 (w.heap.size) 25 [.int .i64 c.inputs, .slice GA gn gc, .slice OA on oc]) := (rowCells RC.out B_wa.out)
  have k0 := kR.out.cell 0
  have k1 := kR.out.cell 1
  have k2 := kR.out.cell 2
  have kl := kR.out.lt
  simp only [List.getElem?_cons_zero, List.getElem?_cons_succ] at k0 k1 k2
  clear kR
  go_wp2_with fail
  have RX : Hid (Row (World.alloc w2 (.cells #[.int .i64 pv, .slice XA xn xc] 30)) (w2.heap.size) 30 [.int .i64 pv, .slice XA xn xc]) := by
    have h0 := Row.new w2 30 [.int .i64 pv, .slice XA xn xc]
    try simp only [World.size_alloc] at h0
    exact h0
  have hgr9 : Below w2.heap.size w2 (World.alloc w2 (.cells #[.int .i64 pv, .slice XA xn xc] 30)) := by go_grown
  have B_w : Hid (Below w.heap.size w (World.alloc w2 (.cells #[.int .i64 pv, .slice XA xn xc] 30))) := below_on2 B_w.out hgr9
  have B_wa : Hid (Below wa.heap.size wa (World.alloc w2 (.cells #[.int .i64 pv, .slice XA xn xc] 30))) := below_on2 B_wa.out hgr9
  have B_w1 : Hid (Below w1.heap.size w1 (World.alloc w2 (.cells #[.int .i64 pv, .slice XA xn xc] 30))) := below_on2 B_w1.out hgr9
  have B_w2 : Hid (Below w2.heap.size w2 (World.alloc w2 (.cells #[.int .i64 pv, .slice XA xn xc] 30))) := hgr9
  clear hgr9
  clear k0 k1 k2 kl
  revert RX B_w B_wa B_w1 B_w2
  generalize (World.alloc w2 (.cells #[.int .i64 pv, .slice XA xn xc] 30)) = wb
  intro RX B_w B_wa B_w1 B_w2
  with_reducible refine (rCirc_any c GA OA gn gc on oc wb (HC.out.up B_w.out)).mono ?_
  rintro e w3 ⟨YA, yn, yc, sy, rfl, hfa, hb⟩
  have HY : Hid (FAt w3 (circR c) YA yn sy) := hfa
  rw [HPV.out, HKE.out]
  clear hfa
  have B_w : Hid (Below w.heap.size w w3) := below_on2 B_w.out hb
  have B_wa : Hid (Below wa.heap.size wa w3) := below_on2 B_wa.out hb
  have B_w1 : Hid (Below w1.heap.size w1 w3) := below_on2 B_w1.out hb
  have B_w2 : Hid (Below w2.heap.size w2 w3) := below_on2 B_w2.out hb
  have B_wb : Hid (Below wb.heap.size wb w3) := hb
  clear hb
  have kR : Hid (Row w3 (w2.heap.size) 30 [.int .i64 pv, .slice XA xn xc]) := (rowCells RX.out B_wb.out)
  have k0 := kR.out.cell 0
  have k1 := kR.out.cell 1
  have kl := kR.out.lt
  simp only [List.getElem?_cons_zero, List.getElem?_cons_succ] at k0 k1
  clear kR
  go_wp2_with fail
  have RY : Hid (Row (World.alloc w3 (.cells #[.int .i64 pv, .slice YA yn yc] 30)) (w3.heap.size) 30 [.int .i64 pv, .slice YA yn yc]) := by
    have h0 := Row.new w3 30 [.int .i64 pv, .slice YA yn yc]
    try simp only [World.size_alloc] at h0
    exact h0
  have hgr9 : Below w3.heap.size w3 (World.alloc w3 (.cells #[.int .i64 pv, .slice YA yn yc] 30)) := by go_grown
  have B_w : Hid (Below w.heap.size w (World.alloc w3 (.cells #[.int .i64 pv, .slice YA yn yc] 30))) := below_on2 B_w.out hgr9
  have B_wa : Hid (Below wa.heap.size wa (World.alloc w3 (.cells #[.int .i64 pv, .slice YA yn yc] 30))) := below_on2 B_wa.out hgr9
  have B_w1 : Hid (Below w1.heap.size w1 (World.alloc w3 (.cells #[.int .i64 pv, .slice YA yn yc] 30))) := below_on2 B_w1.out hgr9
  have B_w2 : Hid (Below w2.heap.size w2 (World.alloc w3 (.cells #[.int .i64 pv, .slice YA yn yc] 30))) := below_on2 B_w2.out hgr9
  have B_wb : Hid (Below wb.heap.size wb (World.alloc w3 (.cells #[.int .i64 pv, .slice YA yn yc] 30))) := below_on2 B_wb.out hgr9
  have B_w3 : Hid (Below w3.heap.size w3 (World.alloc w3 (.cells #[.int .i64 pv, .slice YA yn yc] 30))) := hgr9
  clear hgr9
  clear k0 k1 kl
  revert RY B_w B_wa B_w1 B_w2 B_wb B_w3
  generalize (World.alloc w3 (.cells #[.int .i64 pv, .slice YA yn yc] 30)) = wc
  intro RY B_w B_wa B_w1 B_w2 B_wb B_w3
  have HCT := rEqualF_any (circR c) (circR c) XA YA xn xc yn yc sx sy wc (HX.out.up B_w2.out) (HY.out.up B_w3.out)
  rw [sameF_self, HPV.out] at HCT
  with_reducible refine HCT.mono ?_
  clear HCT
  rintro e w4 ⟨rfl, hb⟩
  have B_w : Hid (Below w.heap.size w w4) := below_on2 B_w.out hb
  have B_wa : Hid (Below wa.heap.size wa w4) := below_on2 B_wa.out hb
  have B_w1 : Hid (Below w1.heap.size w1 w4) := below_on2 B_w1.out hb
  have B_w2 : Hid (Below w2.heap.size w2 w4) := below_on2 B_w2.out hb
  have B_wb : Hid (Below wb.heap.size wb w4) := below_on2 B_wb.out hb
  have B_w3 : Hid (Below w3.heap.size w3 w4) := below_on2 B_w3.out hb
  have B_wc : Hid (Below wc.heap.size wc w4) := hb
  clear hb
  by_cases hk0 : ke = 0
  case neg =>
    have hkz : (ke != 0) = true := by rw [bne_iff_ne]; exact hk0
    go_wp2_with fail
    refine (alive_any w4).mono ?_
    rintro e w9 ⟨rfl, hb⟩
    have HBE : Hid (Below w.heap.size w w9) := below_on2 B_w.out hb
    clear hb
    go_wp2
    go_ret
    exact ⟨rfl, HBE.out⟩
  subst hk0
  have HR : Hid (rightC c = true) := circ_right HKE.out
  obtain ⟨⟨p1, p2, p3, p4⟩, _, _⟩ := rightC_parts HR.out
  obtain ⟨inn, hin⟩ : ∃ inn : Nat, c.inputs = (inn : Int) := ⟨c.inputs.toNat, by omega⟩
  have HIN : Hid (c.inputs = (inn : Int)) := hin
  have hin1 : inn ≤ 1000 := by omega
  have RC4 : Hid (Row w4 w.heap.size 25 [.int .i64 (inn : Int), .slice GA gn gc, .slice OA on oc]) := (by have h9 := (show Row w4 _ _ _ from (rowCells RC.out B_wa.out)); rw [hin] at h9; exact h9)
  rw [hin]
  clear hin p1 p2 p3 p4
  have RC : Hid (Row w4 w.heap.size 25 [.int .i64 (inn : Int), .slice GA gn gc, .slice OA on oc]) := RC4.out
  clear RC4
  have k0 := RC.out.cell 0
  have k1 := RC.out.cell 1
  have k2 := RC.out.cell 2
  have kl := RC.out.lt
  simp only [List.getElem?_cons_zero, List.getElem?_cons_succ] at k0 k1 k2
  go_wp2
  clear k0 k1 k2 kl
  go_loopg [7, 8] inn (fun gg s7 s8 wr => ∃ (j : Nat) (v : Value), j ≤ inn ∧ inn - j ≤ gg ∧ s8 = .int .i64 ((j : Int) + 1) ∧ s7 = v ∧ Aside (Below w4.heap.size w4 wr) ∧ Aside (wr.ownsRow w4.heap.size 3 1 v j (ints (upto1 j))))
  case atStart => exact ⟨0, _, Nat.zero_le _, by omega, rfl, rfl, Below.refl _ _, World.ownsRow_nil _ _ _ _⟩
  case round =>
    obtain ⟨j, v, hj, hgj, rfl, rfl, BN, OW⟩ := hrel
    have RCr : Hid (Row wr w.heap.size 25 [.int .i64 (inn : Int), .slice GA gn gc, .slice OA on oc]) := rowCells RC.out BN.out
    have k0 := RCr.out.cell 0
    have k1 := RCr.out.cell 1
    have k2 := RCr.out.cell 2
    have kl := RCr.out.lt
    simp only [List.getElem?_cons_zero, List.getElem?_cons_succ] at k0 k1 k2
    obtain ⟨XB, xd, rfl, _⟩ := Rd.own OW.out
    by_cases hlj : j < inn
    · have hljz : (j : Int) + 1 ≤ (inn : Int) := by omega
      have hb8 := BN.out.size
      go_wp2_with (at_builtin; refine wpList_app rfl (.tmp 44) (.tmp 46) 23 rfl w4.heap.size 3 (.int .i64 0) 1 8 Try.underlying23 int_infoE rfl (by decide) (by decide) (.slice XB j xd) (j) (ints (upto1 j)) rfl ?own (wr.heap.size + 1) (some ⟨wr.heap.size, 0, none⟩) 1 1 [.int .i64 ((j : Int) + 1)] rfl ?rd ?one ?hb ?hbase ?_)
      case own => exact (OW.out).alloc _
      case rd => exact Rd.lit wr #[.int .i64 ((j : Int) + 1)] 3 (sz := 1) (m := 1) rfl
      case one => first | (intro u hu; simp at hu; subst hu; rfl) | rfl
      case hb => omega
      case hbase => first | (simp; omega) | omega
      intro v' w' hown' hgrow' hat'
      have HOn : Hid (w'.ownsRow w4.heap.size 3 1 v' (j + 1) (ints (upto1 (j + 1)))) := (by show World.ownsRow _ _ _ _ _ _ _; rw [show ints (upto1 (j + 1)) = ints (upto1 j) ++ [.int .i64 ((j : Int) + 1)] by rw [upto1_succ]; simp [ints]]; exact hown')
      have HBn : Hid (Below w4.heap.size w4 w') := (BN.out.alloc hb8 _).grown hgrow' (by simp; omega) (fun q hq => (OW.out.lt q hq).1)
      clear hown' hgrow' hat' hb8 k0 k1 k2 kl
      go_wp2
      go_roundg (inn - (j + 1))
      case measure => omega
      case rel => exact ⟨j + 1, v', by omega, by omega, by go_num, rfl, HBn.out, HOn.out⟩
    · have hljz : ¬ (j : Int) + 1 ≤ (inn : Int) := by omega
      obtain rfl : inn = j := by omega
      have HI : Hid (Rd wr wr.heap.size 1 XB inn (ints (upto1 inn))) := Rd.of_own OW.out
      have BNr : Hid (Below w4.heap.size w4 wr) := BN.out
      clear BN OW
      have B_w : Hid (Below w.heap.size w wr) := below_on2 B_w.out BNr.out
      have B_wa : Hid (Below wa.heap.size wa wr) := below_on2 B_wa.out BNr.out
      have B_w1 : Hid (Below w1.heap.size w1 wr) := below_on2 B_w1.out BNr.out
      have B_w2 : Hid (Below w2.heap.size w2 wr) := below_on2 B_w2.out BNr.out
      have B_wb : Hid (Below wb.heap.size wb wr) := below_on2 B_wb.out BNr.out
      have B_w3 : Hid (Below w3.heap.size w3 wr) := below_on2 B_w3.out BNr.out
      have B_wc : Hid (Below wc.heap.size wc wr) := below_on2 B_wc.out BNr.out
      have B_w4 : Hid (Below w4.heap.size w4 wr) := BNr.out
      clear BNr
      go_wp2_with fail
      have HCT := ePlace_any ⟨c.inputs, []⟩ c (upto1 inn) none GA OA XB 0 0 gn gc on oc inn xd [] wr (nil_at _ _) (HC.out.up B_w.out) HI.out (by unfold maxLen; omega) wr.heap.size (Nat.le_refl _) (fun i hi => absurd hi (Nat.not_lt_zero _))
      have e1 := (circ_place c).1
      have e2 := (circ_place c).2
      rw [show c.inputs.toNat = inn by have := HIN.out; omega] at e1 e2
      rw [e1, e2, show (⟨c.inputs, []⟩ : Fml).vars = (inn : Int) from HIN.out, HIN.out, HKE.out] at HCT
      clear e1 e2
      with_reducible refine HCT.mono ?_
      clear HCT
      rintro e w5 ⟨PA, pn, pc, sp, QA, qn, qc, rfl, hpl, hE, hO, hqn, hb⟩
      have HP : Hid (FAt w5 (circR c) PA pn sp) := hE.fat hb.size hpl.1 hpl.2
      rw [HPV.out]
      clear hpl hE hO hqn RCr k0 k1 k2 kl
      have B_w : Hid (Below w.heap.size w w5) := below_on2 B_w.out hb
      have B_wa : Hid (Below wa.heap.size wa w5) := below_on2 B_wa.out hb
      have B_w1 : Hid (Below w1.heap.size w1 w5) := below_on2 B_w1.out hb
      have B_w2 : Hid (Below w2.heap.size w2 w5) := below_on2 B_w2.out hb
      have B_wb : Hid (Below wb.heap.size wb w5) := below_on2 B_wb.out hb
      have B_w3 : Hid (Below w3.heap.size w3 w5) := below_on2 B_w3.out hb
      have B_wc : Hid (Below wc.heap.size wc w5) := below_on2 B_wc.out hb
      have B_w4 : Hid (Below w4.heap.size w4 w5) := below_on2 B_w4.out hb
      have B_wr : Hid (Below wr.heap.size wr w5) := hb
      clear hb
      have kR : Hid (Row w5 (w2.heap.size) 30 [.int .i64 pv, .slice XA xn xc]) := (rowCells RX.out B_wb.out)
      have k0 := kR.out.cell 0
      have k1 := kR.out.cell 1
      have kl := kR.out.lt
      simp only [List.getElem?_cons_zero, List.getElem?_cons_succ] at k0 k1
      clear kR
      go_wp2_with fail
      have RP : Hid (Row (World.alloc w5 (.cells #[.int .i64 pv, .slice PA pn pc] 30)) (w5.heap.size) 30 [.int .i64 pv, .slice PA pn pc]) := by
        have h0 := Row.new w5 30 [.int .i64 pv, .slice PA pn pc]
        try simp only [World.size_alloc] at h0
        exact h0
      have hgr9 : Below w5.heap.size w5 (World.alloc w5 (.cells #[.int .i64 pv, .slice PA pn pc] 30)) := by go_grown
      have B_w : Hid (Below w.heap.size w (World.alloc w5 (.cells #[.int .i64 pv, .slice PA pn pc] 30))) := below_on2 B_w.out hgr9
      have B_wa : Hid (Below wa.heap.size wa (World.alloc w5 (.cells #[.int .i64 pv, .slice PA pn pc] 30))) := below_on2 B_wa.out hgr9
      have B_w1 : Hid (Below w1.heap.size w1 (World.alloc w5 (.cells #[.int .i64 pv, .slice PA pn pc] 30))) := below_on2 B_w1.out hgr9
      have B_w2 : Hid (Below w2.heap.size w2 (World.alloc w5 (.cells #[.int .i64 pv, .slice PA pn pc] 30))) := below_on2 B_w2.out hgr9
      have B_wb : Hid (Below wb.heap.size wb (World.alloc w5 (.cells #[.int .i64 pv, .slice PA pn pc] 30))) := below_on2 B_wb.out hgr9
      have B_w3 : Hid (Below w3.heap.size w3 (World.alloc w5 (.cells #[.int .i64 pv, .slice PA pn pc] 30))) := below_on2 B_w3.out hgr9
      have B_wc : Hid (Below wc.heap.size wc (World.alloc w5 (.cells #[.int .i64 pv, .slice PA pn pc] 30))) := below_on2 B_wc.out hgr9
      have B_w4 : Hid (Below w4.heap.size w4 (World.alloc w5 (.cells #[.int .i64 pv, .slice PA pn pc] 30))) := below_on2 B_w4.out hgr9
      have B_wr : Hid (Below wr.heap.size wr (World.alloc w5 (.cells #[.int .i64 pv, .slice PA pn pc] 30))) := below_on2 B_wr.out hgr9
      have B_w5 : Hid (Below w5.heap.size w5 (World.alloc w5 (.cells #[.int .i64 pv, .slice PA pn pc] 30))) := hgr9
      clear hgr9
      clear k0 k1 kl
      revert RP B_w B_wa B_w1 B_w2 B_wb B_w3 B_wc B_w4 B_wr B_w5
      generalize (World.alloc w5 (.cells #[.int .i64 pv, .slice PA pn pc] 30)) = wd
      intro RP B_w B_wa B_w1 B_w2 B_wb B_w3 B_wc B_w4 B_wr B_w5
      have HCT := rEqualF_any (circR c) (circR c) PA XA pn pc xn xc sp sx wd (HP.out.up B_w5.out) (HX.out.up B_w2.out)
      rw [sameF_self, HPV.out] at HCT
      with_reducible refine HCT.mono ?_
      clear HCT
      rintro e w6 ⟨rfl, hb⟩
      have B_w : Hid (Below w.heap.size w w6) := below_on2 B_w.out hb
      have B_wa : Hid (Below wa.heap.size wa w6) := below_on2 B_wa.out hb
      have B_w1 : Hid (Below w1.heap.size w1 w6) := below_on2 B_w1.out hb
      have B_w2 : Hid (Below w2.heap.size w2 w6) := below_on2 B_w2.out hb
      have B_wb : Hid (Below wb.heap.size wb w6) := below_on2 B_wb.out hb
      have B_w3 : Hid (Below w3.heap.size w3 w6) := below_on2 B_w3.out hb
      have B_wc : Hid (Below wc.heap.size wc w6) := below_on2 B_wc.out hb
      have B_w4 : Hid (Below w4.heap.size w4 w6) := below_on2 B_w4.out hb
      have B_wr : Hid (Below wr.heap.size wr w6) := below_on2 B_wr.out hb
      have B_w5 : Hid (Below w5.heap.size w5 w6) := below_on2 B_w5.out hb
      have B_wd : Hid (Below wd.heap.size wd w6) := hb
      clear hb
      go_wp2_with fail
      refine (alive_any w6).mono ?_
      rintro e w9 ⟨rfl, hb⟩
      have HBE : Hid (Below w.heap.size w w9) := below_on2 B_w.out hb
      clear hb
      go_wp2
      go_ret
      exact ⟨rfl, HBE.out⟩
end Go.Proofs.Ytofflkfkakddkaa
