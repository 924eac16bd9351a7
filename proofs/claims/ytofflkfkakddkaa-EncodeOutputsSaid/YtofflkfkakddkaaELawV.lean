/-
  EncodeValues, walked.
-/
import Derived.Test.YtofflkfkakddkaaELawC
namespace Go.Proofs.Ytofflkfkakddkaa
open Go.RowKit
set_option linter.unusedSimpArgs false
set_option linter.unusedVariables false
theorem bools_getV (bs : List Bool) (k : Nat) (h : k < bs.length) : (bools bs)[k]? = some (.bool (bs.getD k false)) := bools_get bs k h
theorem bools_setV (bs : List Bool) (k : Nat) (b : Bool) : (bools bs).set k (.bool b) = bools (bs.set k b) := by simp [bools, List.map_set]
set_option maxRecDepth 100000 in
set_option maxHeartbeats 4000000 in
theorem encodeValues_walk (c : Circ) (ins : List Bool) (GA OA IA : Option Addr) (gn gc on oc n ic : Nat) (w : World) (hc : CAt w c GA OA gn on) (hi : Rd w w.heap.size 1 IA n (bools ins)) (hn : n ≤ maxLen) :
    Calls Try.prog 7 #[.agg #[.int .i64 c.inputs, .slice GA gn gc, .slice OA on oc], .slice IA n ic] w fun e w' => e = .returned (.bool true) ∧ Below w.heap.size w w' := by
  have HC : Hid (CAt w c GA OA gn on) := hc
  have HI : Hid (Rd w w.heap.size 1 IA n (bools ins)) := hi
  have HLI : Hid (ins.length = n) := by have := hi.1; rw [bools_length, Nat.mul_one] at this; exact this
  have HLG : Hid (c.gates.length = gn) := hc.gl
  have hm1 := hc.g63
  have hm2 := hc.o63
  unfold maxLen at hm1 hm2 hn
  clear hc hi
  go_enter Try.func7, Try.ntmps7
  by_cases hg : gn ≤ 200
  case neg =>
    have hgz : (200 : Int) < (gn : Int) := by omega
    go_wp2_with fail
    have RC : Hid (Row (World.alloc w (.cells #[.int .i64 c.inputs, .slice GA gn gc, .slice OA on oc] 25)) (w.heap.size) 25 [.int .i64 c.inputs, .slice GA gn gc, .slice OA on oc]) := by
      have h0 := Row.new w 25 [.int .i64 c.inputs, .slice GA gn gc, .slice OA on oc]
      try simp only [World.size_alloc] at h0
      exact h0
    have hgr9 : Below w.heap.size w (World.alloc w (.cells #[.int .i64 c.inputs, .slice GA gn gc, .slice OA on oc] 25)) := by go_grown
    have B_w : Hid (Below w.heap.size w (World.alloc w (.cells #[.int .i64 c.inputs, .slice GA gn gc, .slice OA on oc] 25))) := hgr9
    clear hgr9
    revert RC B_w
    generalize (World.alloc w (.cells #[.int .i64 c.inputs, .slice GA gn gc, .slice OA on oc] 25)) = wa
    intro RC B_w
    refine (alive_any wa).mono ?_
    rintro e w9 ⟨rfl, hb⟩
    have HBE : Hid (Below w.heap.size w w9) := below_on2 B_w.out hb
    clear hb
    go_wp2
    go_ret
    exact ⟨rfl, HBE.out⟩
  have hgz : ¬ (200 : Int) < (gn : Int) := by omega
  go_wp2_with fail
  have RC : Hid (Row (World.alloc w (.cells #[.int .i64 c.inputs, .slice GA gn gc, .slice OA on oc] 25)) (w.heap.size) 25 [.int .i64 c.inputs, .slice GA gn gc, .slice OA on oc]) := by
    have h0 := Row.new w 25 [.int .i64 c.inputs, .slice GA gn gc, .slice OA on oc]
    try simp only [World.size_alloc] at h0
    exact h0
  have hgr9 : Below w.heap.size w (World.alloc w (.cells #[.int .i64 c.inputs, .slice GA gn gc, .slice OA on oc] 25)) := by go_grown
  have B_w : Hid (Below w.heap.size w (World.alloc w (.cells #[.int .i64 c.inputs, .slice GA gn gc, .slice OA on oc] 25))) := hgr9
  clear hgr9
  revert RC B_w
  generalize (World.alloc w (.cells #[.int .i64 c.inputs, .slice GA gn gc, .slice OA on oc] 25)) = wa
  intro RC B_w
  refine (rRight_at c GA OA gn gc on oc wa (HC.out.up B_w.out)).mono ?_
  rintro e w1 ⟨rfl, hb⟩
  have B_w : Hid (Below w.heap.size w w1) := below_on2 B_w.out hb
  have B_wa : Hid (Below wa.heap.size wa w1) := hb
  clear hb
  have kR : Hid (Row w1 (w.heap.size) 25 [.int .i64 c.inputs, .slice GA gn gc, .slice OA on oc]) := (rowCells RC.out B_wa.out)
  have k0 := kR.out.cell 0
  have k1 := kR.out.cell 1
  have k2 := kR.out.cell 2
  have kl := kR.out.lt
  simp only [List.getElem?_cons_zero, List.getElem?_cons_succ] at k0 k1 k2
  clear kR
  cases hr : rightC c
  · clear hr
    go_wp2_with fail
    refine (alive_any w1).mono ?_
    rintro e w9 ⟨rfl, hb⟩
    have HBE : Hid (Below w.heap.size w w9) := below_on2 B_w.out hb
    clear hb
    go_wp2
    go_ret
    exact ⟨rfl, HBE.out⟩
  have HR : Hid (rightC c = true) := hr
  obtain ⟨⟨p1, p2, p3, p4⟩, pg, _⟩ := rightC_parts hr
  obtain ⟨inn, hin⟩ : ∃ inn : Nat, c.inputs = (inn : Int) := ⟨c.inputs.toNat, by omega⟩
  have HIN : Hid (c.inputs = (inn : Int)) := hin
  have HPG : Hid (∀ k, k < c.gates.length → gateOk ((inn : Int) + k) (c.gates.getD k default) = true) := (by rw [hin] at pg; exact pg)
  have hin1 : inn ≤ 1000 := by omega
  rw [hin] at k0 ⊢
  clear hr hin p1 p2 p3 p4 pg
  by_cases h50 : inn ≤ 50
  case neg =>
    have h50z : (50 : Int) < (inn : Int) := by omega
    go_wp2_with fail
    refine (alive_any w1).mono ?_
    rintro e w9 ⟨rfl, hb⟩
    have HBE : Hid (Below w.heap.size w w9) := below_on2 B_w.out hb
    clear hb
    go_wp2
    go_ret
    exact ⟨rfl, HBE.out⟩
  have h50z : ¬ (50 : Int) < (inn : Int) := by omega
  by_cases hni : n = inn
  case neg =>
    have hnz : ((n : Int) != (inn : Int)) = true := by rw [bne_iff_ne]; omega
    go_wp2_with fail
    refine (alive_any w1).mono ?_
    rintro e w9 ⟨rfl, hb⟩
    have HBE : Hid (Below w.heap.size w w9) := below_on2 B_w.out hb
    clear hb
    go_wp2
    go_ret
    exact ⟨rfl, HBE.out⟩
  subst hni
  have hnz : ((n : Int) != (n : Int)) = false := by simp
  obtain ⟨s1, s2, s3, s4⟩ := place_small HR.out HIN.out (upto1_length n) (by rw [HLG.out]; exact hg) (fun w h => upto_wires _ _ _ h)
  have HP := circParts HR.out HIN.out
  rw [HIN.out] at HP
  have hce0 : circErr c = 0 := by rw [HP.1]; exact s2
  have HCE : Hid (circErr c = 0 ∧ circR c = placeF ⟨(n : Int), []⟩ c (upto1 n)) := ⟨hce0, HP.2.1 hce0⟩
  have HRF : Hid (rightF (placeF ⟨(n : Int), []⟩ c (upto1 n)) = true) := s1
  have HCL : Hid ((placeF ⟨(n : Int), []⟩ c (upto1 n)).cls = placeTo n (upto1 n) c.gates c.gates.length) := s3
  have HVS : Hid ((placeF ⟨(n : Int), []⟩ c (upto1 n)).vars = (n : Int) + (gn : Int)) := (by show _ = _; rw [← HLG.out]; rfl)
  clear s1 s2 s3 s4 HP hce0
  go_wp2_with fail
  have HCT := eCirc_any c GA OA gn gc on oc w1 (HC.out.up B_w.out)
  rw [HIN.out, HCE.out.1, HCE.out.2] at HCT
  with_reducible refine HCT.mono ?_
  clear HCT
  rintro e w2 ⟨XA, xn, xc, sx, rfl, hfa, hb⟩
  have HX : Hid (FAt w2 (placeF ⟨(n : Int), []⟩ c (upto1 n)) XA xn sx) := hfa
  rw [HVS.out]
  clear hfa
  have RC1 : Hid (Row w1 w.heap.size 25 [.int .i64 (n : Int), .slice GA gn gc, .slice OA on oc]) := (by have h9 := (show Row w1 _ _ _ from (rowCells RC.out B_wa.out)); rw [HIN.out] at h9; exact h9)
  have B_w : Hid (Below w.heap.size w w2) := below_on2 B_w.out hb
  have B_wa : Hid (Below wa.heap.size wa w2) := below_on2 B_wa.out hb
  have B_w1 : Hid (Below w1.heap.size w1 w2) := hb
  clear k0 k1 k2 kl
  clear hb
  have kR : Hid (Row w2 (w.heap.size) 25 [.int .i64 (n : Int), .slice GA gn gc, .slice OA on oc]) := (rowCells RC1.out B_w1.out)
  have k0 := kR.out.cell 0
  have k1 := kR.out.cell 1
  have k2 := kR.out.cell 2
  have kl := kR.out.lt
  simp only [List.getElem?_cons_zero, List.getElem?_cons_succ] at k0 k1 k2
  clear kR
  go_wp2_with fail
  have RX : Hid (Row (World.alloc w2 (.cells #[.int .i64 ((n : Int) + (gn : Int)), .slice XA xn xc] 30)) (w2.heap.size) 30 [.int .i64 ((n : Int) + (gn : Int)), .slice XA xn xc]) := by
    have h0 := Row.new w2 30 [.int .i64 ((n : Int) + (gn : Int)), .slice XA xn xc]
    try simp only [World.size_alloc] at h0
    exact h0
  have hgr9 : Below w2.heap.size w2 (World.alloc w2 (.cells #[.int .i64 ((n : Int) + (gn : Int)), .slice XA xn xc] 30)) := by go_grown
  have B_w : Hid (Below w.heap.size w (World.alloc w2 (.cells #[.int .i64 ((n : Int) + (gn : Int)), .slice XA xn xc] 30))) := below_on2 B_w.out hgr9
  have B_wa : Hid (Below wa.heap.size wa (World.alloc w2 (.cells #[.int .i64 ((n : Int) + (gn : Int)), .slice XA xn xc] 30))) := below_on2 B_wa.out hgr9
  have B_w1 : Hid (Below w1.heap.size w1 (World.alloc w2 (.cells #[.int .i64 ((n : Int) + (gn : Int)), .slice XA xn xc] 30))) := below_on2 B_w1.out hgr9
  have B_w2 : Hid (Below w2.heap.size w2 (World.alloc w2 (.cells #[.int .i64 ((n : Int) + (gn : Int)), .slice XA xn xc] 30))) := hgr9
  clear hgr9
  clear k0 k1 k2 kl
  revert RX B_w B_wa B_w1 B_w2
  generalize (World.alloc w2 (.cells #[.int .i64 ((n : Int) + (gn : Int)), .slice XA xn xc] 30)) = wb
  intro RX B_w B_wa B_w1 B_w2
  with_reducible refine (rValues_any n GA OA IA gn gc on oc ic c.gates ins wb (HC.out.up B_w.out).gates (HI.out.up B_w.out) hin1 (by omega) HPG.out).mono ?_
  rintro e w3 ⟨v, rfl, hO, hb⟩
  obtain ⟨VA, vc, rfl, _⟩ := Rd.own hO
  have HVL : Hid (Rd w3 w3.heap.size 1 VA (n + gn) (bools (runG evalB false c.gates ins))) := Rd.of_own hO
  clear hO
  have B_w : Hid (Below w.heap.size w w3) := below_on2 B_w.out hb
  have B_wa : Hid (Below wa.heap.size wa w3) := below_on2 B_wa.out hb
  have B_w1 : Hid (Below w1.heap.size w1 w3) := below_on2 B_w1.out hb
  have B_w2 : Hid (Below w2.heap.size w2 w3) := below_on2 B_w2.out hb
  have B_wb : Hid (Below wb.heap.size wb w3) := hb
  clear hb
  have kR : Hid (Row w3 (w2.heap.size) 30 [.int .i64 ((n : Int) + (gn : Int)), .slice XA xn xc]) := (rowCells RX.out B_wb.out)
  have k0 := kR.out.cell 0
  have k1 := kR.out.cell 1
  have kl := kR.out.lt
  simp only [List.getElem?_cons_zero, List.getElem?_cons_succ] at k0 k1
  clear kR
  have hq1 : (((n : Int) + (gn : Int)) != ((n + gn : Nat) : Int)) = false := by simp
  have HHL : Hid (holdsL (placeF ⟨(n : Int), []⟩ c (upto1 n)).cls (runG evalB false c.gates ins) = true) := (by show _ = _; rw [HCL.out]; exact values_hold HLI.out HPG.out)
  go_wp2_with fail
  have HCT := holds_any (placeF ⟨(n : Int), []⟩ c (upto1 n)) (runG evalB false c.gates ins) XA VA xn xc (n + gn) vc sx w3 (HX.out.up B_w2.out) HVL.out (by unfold maxLen; omega) HRF.out
  rw [HVS.out, HHL.out] at HCT
  with_reducible refine HCT.mono ?_
  clear HCT
  rintro e w4 ⟨rfl, hb⟩
  have B_w : Hid (Below w.heap.size w w4) := below_on2 B_w.out hb
  have B_wa : Hid (Below wa.heap.size wa w4) := below_on2 B_wa.out hb
  have B_w1 : Hid (Below w1.heap.size w1 w4) := below_on2 B_w1.out hb
  have B_w2 : Hid (Below w2.heap.size w2 w4) := below_on2 B_w2.out hb
  have B_wb : Hid (Below wb.heap.size wb w4) := below_on2 B_wb.out hb
  have B_w3 : Hid (Below w3.heap.size w3 w4) := hb
  clear k0 k1 kl
  clear hb
  have kR : Hid (Row w4 (w.heap.size) 25 [.int .i64 (n : Int), .slice GA gn gc, .slice OA on oc]) := (rowCells RC1.out B_w1.out)
  have k0 := kR.out.cell 0
  have k1 := kR.out.cell 1
  have k2 := kR.out.cell 2
  have kl := kR.out.lt
  simp only [List.getElem?_cons_zero, List.getElem?_cons_succ] at k0 k1 k2
  clear kR
  go_wp2
  clear k0 k1 k2 kl
  have C_w := B_w
  have C_wa := B_wa
  have C_w1 := B_w1
  have C_w2 := B_w2
  have C_wb := B_wb
  have C_w3 := B_w3
  go_loopg [8, 9, 58] gn (fun gg _ _ s58 wr => ∃ (i : Nat), i ≤ gn ∧ gn - i ≤ gg ∧ s58 = .int .i64 (i : Int) ∧ Aside (Below w4.heap.size w4 wr))
  case atStart => exact ⟨0, Nat.zero_le _, by omega, rfl, Below.refl _ _⟩
  case round =>
    obtain ⟨i, hi, hgi, rfl, BN⟩ := hrel
    have BNr : Hid (Below w4.heap.size w4 wr) := BN.out
    clear BN
    have B_w : Hid (Below w.heap.size w wr) := below_on2 B_w.out BNr.out
    have B_wa : Hid (Below wa.heap.size wa wr) := below_on2 B_wa.out BNr.out
    have B_w1 : Hid (Below w1.heap.size w1 wr) := below_on2 B_w1.out BNr.out
    have B_w2 : Hid (Below w2.heap.size w2 wr) := below_on2 B_w2.out BNr.out
    have B_wb : Hid (Below wb.heap.size wb wr) := below_on2 B_wb.out BNr.out
    have B_w3 : Hid (Below w3.heap.size w3 wr) := below_on2 B_w3.out BNr.out
    have B_w4 : Hid (Below w4.heap.size w4 wr) := BNr.out
    clear BNr
    by_cases hlt : i < gn
    · have hltz : (i : Int) < (gn : Int) := by omega
      obtain ⟨vd, rfl, hvb, hvc⟩ := (HVL.out.up B_w3.out).bool (k := n + i) (by omega)
      have hszr := B_w4.out.size
      have BW4 : Hid (Below w4.heap.size w4 wr) := B_w4.out
      go_wp2_with (at_builtin; refine wpList_app rfl (.tmp 61) (.tmp 62) 40 rfl w4.heap.size 4 (.bool false) 1 1 Try.underlying40 bool_info rfl (by decide) (by decide) (.slice none 0 0) 0 [] rfl ?own wr.heap.size (some vd) (n + gn) vc (bools (runG evalB false c.gates ins)) rfl ?rd (bools_one _) ?hb ?hbase ?_)
      case own => exact World.ownsRow_nil _ _ _ _
      case rd => exact (HVL.out.up B_w3.out)
      case hb => omega
      case hbase => omega
      intro v' w5 hown' hgrow' hat'
      have HO5 : Hid (w5.ownsRow w4.heap.size 4 1 v' (n + gn) (bools (runG evalB false c.gates ins))) := (by show World.ownsRow _ _ _ _ _ _ _; simpa using hown')
      have hb : Below wr.heap.size wr w5 := (Below.refl _ _).grown hgrow' (Nat.le_refl _) (fun k hk => by simp [Value.ownBlock] at hk)
      clear hown' hgrow' hat'
      obtain ⟨gv, oc9, rfl, hgv1, hgv2⟩ := HO5.out.form (by omega)
      have hcell : w5.cell? (vd.add (n + i)) = some (.bool ((runG evalB false c.gates ins).getD (n + i) false)) := (hb.cell (by rw [add_block]; exact hvb)).trans hvc
      have hvb5 : vd.block < w5.heap.size := Nat.lt_of_lt_of_le hvb hb.size
      clear hvb hvc
      have B_w : Hid (Below w.heap.size w w5) := below_on2 B_w.out hb
      have B_wa : Hid (Below wa.heap.size wa w5) := below_on2 B_wa.out hb
      have B_w1 : Hid (Below w1.heap.size w1 w5) := below_on2 B_w1.out hb
      have B_w2 : Hid (Below w2.heap.size w2 w5) := below_on2 B_w2.out hb
      have B_wb : Hid (Below wb.heap.size wb w5) := below_on2 B_wb.out hb
      have B_w3 : Hid (Below w3.heap.size w3 w5) := below_on2 B_w3.out hb
      have B_w4 : Hid (Below w4.heap.size w4 w5) := below_on2 B_w4.out hb
      have B_wr : Hid (Below wr.heap.size wr w5) := hb
      clear hb
      have hocell := HO5.out.cellAt (n + i) (by omega)
      rw [bools_getV _ _ (by rw [runG_length, HLI.out, HLG.out]; omega)] at hocell
      have hofr := HO5.out.frozenAt (n + i)
      have HBF : Hid (holdsL (placeTo n (upto1 n) c.gates c.gates.length) ((runG evalB false c.gates ins).set (n + i) (!(runG evalB false c.gates ins).getD (n + i) false)) = false) := other_fails HLI.out HPG.out i (by rw [HLG.out]; exact hlt)
      generalize hbv : (runG evalB false c.gates ins).getD (n + i) false = b at hcell hocell HBF
      have HBV : Hid ((runG evalB false c.gates ins).getD (n + i) false = b) := hbv
      clear hbv
      have hwn : IntKind.i64.wrap ((n : Int) + (i : Int)) = (n : Int) + (i : Int) := IntWalk.i64_in _ (by omega)
      have hn9 : ((n : Int) + (i : Int)).toNat = n + i := by omega
      have hq2 : (n : Int) + (i : Int) < (n : Int) + (gn : Int) := by omega
      have hq3 : (0 : Int) ≤ (n : Int) + (i : Int) := by omega
      have hq4 : ¬ ((n : Int) + (i : Int) < 0) := by omega
      have hq5 : n + i < n + gn := by omega
      have kR : Hid (Row w5 (w.heap.size) 25 [.int .i64 (n : Int), .slice GA gn gc, .slice OA on oc]) := (rowCells RC1.out B_w1.out)
      have k0 := kR.out.cell 0
      have k1 := kR.out.cell 1
      have k2 := kR.out.cell 2
      have kl := kR.out.lt
      simp only [List.getElem?_cons_zero, List.getElem?_cons_succ] at k0 k1 k2
      clear kR
      go_wp2_with fail
      go_still_tail 14, (by kernel_rfl)
      change wpList _ _ _ _ _ (World.drew w5)
      have HOd : Hid ((World.drew w5).ownsRow w4.heap.size 4 1 (.slice (some ⟨gv, 0, none⟩) (n + gn) oc9) (n + gn) (bools (runG evalB false c.gates ins))) := HO5.out
      clear k0 k1 k2 kl
      clear hcell hvb5 hocell hofr HO5
      have B_w : Hid (Below w.heap.size w (World.drew w5)) := B_w.out.drew
      have B_wa : Hid (Below wa.heap.size wa (World.drew w5)) := B_wa.out.drew
      have B_w1 : Hid (Below w1.heap.size w1 (World.drew w5)) := B_w1.out.drew
      have B_w2 : Hid (Below w2.heap.size w2 (World.drew w5)) := B_w2.out.drew
      have B_wb : Hid (Below wb.heap.size wb (World.drew w5)) := B_wb.out.drew
      have B_w3 : Hid (Below w3.heap.size w3 (World.drew w5)) := B_w3.out.drew
      have B_w4 : Hid (Below w4.heap.size w4 (World.drew w5)) := B_w4.out.drew
      have B_wr : Hid (Below wr.heap.size wr (World.drew w5)) := B_wr.out.drew
      have B_w5 : Hid (Below w5.heap.size w5 (World.drew w5)) := (Below.refl _ _).drew
      revert HOd B_w B_wa B_w1 B_w2 B_wb B_w3 B_w4 B_wr B_w5
      generalize World.drew w5 = w6
      intro HOd B_w B_wa B_w1 B_w2 B_wb B_w3 B_w4 B_wr B_w5
      have hof6 := HOd.out.frozenAt (n + i)
      have hoc6 := HOd.out.cellAt (n + i) (by omega)
      rw [bools_getV _ _ (by rw [runG_length, HLI.out, HLG.out]; omega)] at hoc6
      have hgl6 : gv < w6.heap.size := Nat.lt_of_lt_of_le hgv2 B_w5.out.size
      have hne : ¬ (w2.heap.size = gv) := by have h1 := (show Row wb _ _ _ from RX.out).lt; have h2 := C_wb.out.size; omega
      have qR : Hid (Row w6 (w2.heap.size) 30 [.int .i64 ((n : Int) + (gn : Int)), .slice XA xn xc]) := (rowCells RX.out B_wb.out)
      have q0 := qR.out.cell 0
      have q1 := qR.out.cell 1
      have ql := qR.out.lt
      simp only [List.getElem?_cons_zero, List.getElem?_cons_succ] at q0 q1
      clear qR
      go_wp2_with fail
      have HOS : Hid (World.ownsRow (World.setCell w6 ⟨gv, n + i, none⟩ (.bool (!b))) w4.heap.size 4 1 (.slice (some ⟨gv, 0, none⟩) (n + gn) oc9) (n + gn) (bools ((runG evalB false c.gates ins).set (n + i) (!b)))) := (by
        show World.ownsRow _ _ _ _ _ _ _
        rw [← bools_setV]
        exact (HOd.out.stored (n + i) (.bool (!b))).1)
      have hb : Below w4.heap.size w4 (World.setCell w6 ⟨gv, n + i, none⟩ (.bool (!b))) := B_w4.out.setCell (p := ⟨gv, n + i, none⟩) hgv1 _
      have B_w : Hid (Below w.heap.size w (World.setCell w6 ⟨gv, n + i, none⟩ (.bool (!b)))) := below_on2 C_w.out hb
      have B_wa : Hid (Below wa.heap.size wa (World.setCell w6 ⟨gv, n + i, none⟩ (.bool (!b)))) := below_on2 C_wa.out hb
      have B_w1 : Hid (Below w1.heap.size w1 (World.setCell w6 ⟨gv, n + i, none⟩ (.bool (!b)))) := below_on2 C_w1.out hb
      have B_w2 : Hid (Below w2.heap.size w2 (World.setCell w6 ⟨gv, n + i, none⟩ (.bool (!b)))) := below_on2 C_w2.out hb
      have B_wb : Hid (Below wb.heap.size wb (World.setCell w6 ⟨gv, n + i, none⟩ (.bool (!b)))) := below_on2 C_wb.out hb
      have B_w3 : Hid (Below w3.heap.size w3 (World.setCell w6 ⟨gv, n + i, none⟩ (.bool (!b)))) := below_on2 C_w3.out hb
      have B_w4 : Hid (Below w4.heap.size w4 (World.setCell w6 ⟨gv, n + i, none⟩ (.bool (!b)))) := hb
      clear q0 q1 ql
      clear B_wr B_w5 C_w C_wa C_w1 C_w2 C_wb C_w3
      clear hb HOd hof6 hoc6 hgl6
      revert HOS B_w B_wa B_w1 B_w2 B_wb B_w3 B_w4
      generalize (World.setCell w6 ⟨gv, n + i, none⟩ (.bool (!b))) = w7
      intro HOS B_w B_wa B_w1 B_w2 B_wb B_w3 B_w4
      have HCT := holds_any (placeF ⟨(n : Int), []⟩ c (upto1 n)) ((runG evalB false c.gates ins).set (n + i) (!b)) XA (some ⟨gv, 0, none⟩) xn xc (n + gn) oc9 sx w7 (HX.out.up B_w2.out) (Rd.of_own HOS.out) (by unfold maxLen; omega) HRF.out
      rw [HVS.out, HCL.out, HBF.out] at HCT
      with_reducible refine HCT.mono ?_
      clear HCT
      rintro e w8 ⟨rfl, hb⟩
      have B_w : Hid (Below w.heap.size w w8) := below_on2 B_w.out hb
      have B_wa : Hid (Below wa.heap.size wa w8) := below_on2 B_wa.out hb
      have B_w1 : Hid (Below w1.heap.size w1 w8) := below_on2 B_w1.out hb
      have B_w2 : Hid (Below w2.heap.size w2 w8) := below_on2 B_w2.out hb
      have B_wb : Hid (Below wb.heap.size wb w8) := below_on2 B_wb.out hb
      have B_w3 : Hid (Below w3.heap.size w3 w8) := below_on2 B_w3.out hb
      have B_w4 : Hid (Below w4.heap.size w4 w8) := below_on2 B_w4.out hb
      have B_w7 : Hid (Below w7.heap.size w7 w8) := hb
      clear hb
      go_wp2
      go_roundg (gn - (i + 1))
      case measure => omega
      case rel => exact ⟨i + 1, by omega, by omega, by go_num, B_w4.out⟩
    · have hltz : ¬ (i : Int) < (gn : Int) := by omega
      go_wp2_with fail
      refine (alive_any wr).mono ?_
      rintro e w9 ⟨rfl, hb⟩
      have HBE : Hid (Below w.heap.size w w9) := below_on2 B_w.out hb
      clear hb
      go_wp2
      go_ret
      exact ⟨rfl, HBE.out⟩
end Go.Proofs.Ytofflkfkakddkaa
